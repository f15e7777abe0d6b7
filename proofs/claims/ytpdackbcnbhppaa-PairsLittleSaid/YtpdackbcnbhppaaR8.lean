/- The reference's pile: Open and Close. The reference's pile: Close. The reference's Sorted. -/
import Derived.Test.YtpdackbcnbhppaaR5
import Derived.BigRegion
import Derived.BigQuiet
import Derived.Deep.QuietTactic
import Derived.Deep.CutBlock
namespace Go.Proofs.Ytpdackbcnbhppaa
open Go.RowKit
attribute [local go_sem] Oper.semAt_some

/-- An opening bracket on the reference's pile. -/
def mkC (x : Int × Int) : List Value := [.int .i64 x.1, .int .u8 1, .int .i32 x.2]
theorem encM : Enc mkC 3 := ⟨fun _ => rfl, fun x u hu => by simp [mkC] at hu; rcases hu with rfl | rfl | rfl <;> rfl⟩
theorem etM : ElemT Try.prog 84 128 3 16 := ElemT.mk' (.agg #[.int .i64 0, .int .u8 0, .int .i32 0]) Try.underlying84 (by kernel_rfl) rfl (by omega)

/-- The reference's pile, as a value. -/
def RPil (W : World) (pv : Value) (l f : List (Int × Int)) (ov : Bool) : Prop :=
  ∃ (A A' : Option Addr) (c c' : Nat), pv = .agg #[.slice A l.length c, .bool ov, .slice A' f.length c'] ∧ l.length ≤ c ∧ f.length ≤ c' ∧ RdR mkC 3 W W.heap.size A l ∧ RdR brC 2 W W.heap.size A' f
theorem RPil.below {W W' : World} {pv : Value} {l f : List (Int × Int)} {ov : Bool} (h : RPil W pv l f ov) {C : Nat} (hb : Below C W W') (hC : W.heap.size ≤ C) : RPil W' pv l f ov := by
  obtain ⟨A, A', c, c', h1, h2, h3, h4, h5⟩ := h
  exact ⟨A, A', c, c', h1, h2, h3, (h4.below hb (.inr hC)).more hb.size, (h5.below hb (.inr hC)).more hb.size⟩
theorem RPil.frm {W W' : World} {pv : Value} {l f : List (Int × Int)} {ov : Bool} (h : RPil W pv l f ov) (hF : Frm (fun _ => False) W W') : RPil W' pv l f ov := h.below (hF.below (Nat.le_refl _) (fun _ _ => id)) (Nat.le_refl _)

theorem RdR.cons_some {α : Type} {c : α → List Value} {sz : Nat} {W : World} {B : Nat} {A : Option Addr} {l : List α} (h : RdR c sz W B A l) (hl : 0 < l.length) : ∃ b off, A = some ⟨b, off, none⟩ ∧ b < B ∧ b < W.heap.size := by
  obtain ⟨b, off, h1, h2, h3, _⟩ := h.2 hl
  exact ⟨b, off, h1, h2, h3⟩

set_option maxRecDepth 100000 in
set_option maxHeartbeats 2000000 in
theorem rOpen_ok {w : World} {pv : Value} {l f : List (Int × Int)} {ov : Bool} (a k : Int) (h : RPil w pv l f ov) (hl : l.length ≤ 63) (hov : ov = true → l = []) :
    Calls Try.prog 44 #[pv, .int .i64 a, .int .i32 k] w fun r w' => ∃ pv', r = .returned (.tuple #[pv', .int .i64 (opE l ov)]) ∧ RPil w' pv' (opL l ov a k) f (opV l ov) ∧ Below w.heap.size w w' := by
  have h0 := h
  obtain ⟨A, A', c, c', rfl, hc, hc', hL, hF⟩ := h
  by_cases hend : ov = true ∨ l.length = 63
  · have e1 : opL l ov a k = [] := by
      unfold opL
      rcases hend with h | h
      · rw [if_pos h, hov h]
      · split
        · rename_i h2; exact hov h2
        · rw [if_pos (by omega)]
    have e2 : opV l ov = true := by unfold opV; rcases hend with h | h <;> simp [h]
    have e3 : opE l ov = 3 := by unfold opE; rw [if_pos e2]
    rw [e1, e2, e3]
    have hg : (ov || (l.length : Int) == 63) = true := by
      rcases hend with h | h
      · simp [h]
      · simp; right; omega
    clear e1 e2 e3 h0
    obtain ⟨ll, hll⟩ : ∃ ll, l.length = ll := ⟨_, rfl⟩
    obtain ⟨fl, hfl⟩ : ∃ fl, f.length = fl := ⟨_, rfl⟩
    rw [hll] at hend hl ⊢
    rw [hfl] at hc' ⊢
    have HFL := Lib.hid hfl
    clear hll hov hL hfl hc hg
    have hb : Below w.heap.size w ((w.alloc (.cells #[.slice none 0 0, .bool true, .slice A' fl c'] 86)).alloc (.cells #[.slice none 0 0, .bool true, .slice A' fl c'] 86)) := ((Below.refl _ w).alloc (Nat.le_refl _) _).alloc (by simp) _
    cases ov
    · have hll3 : ll = 63 := by simpa using hend
      subst hll3
      clear hend
      go_enter Try.func44, Try.ntmps44
      go_wp2
      refine bodyPost_ret (results_row1 rfl _ _ (w.heap.size + 1) 86 _ _ rfl (Blk.at_ (by simp)) Try.underlying86 rfl (by kernel_rfl)) rfl ?_
      exact ⟨_, rfl, ⟨none, A', 0, c', by rw [HFL.out]; rfl, Nat.le_refl _, by rw [HFL.out]; exact hc', Reads.none_, (hF.below hb (.inl (Nat.le_refl _))).more hb.size⟩, hb⟩
    · clear hend
      go_enter Try.func44, Try.ntmps44
      go_wp2
      refine bodyPost_ret (results_row1 rfl _ _ (w.heap.size + 1) 86 _ _ rfl (Blk.at_ (by simp)) Try.underlying86 rfl (by kernel_rfl)) rfl ?_
      exact ⟨_, rfl, ⟨none, A', 0, c', by rw [HFL.out]; rfl, Nat.le_refl _, by rw [HFL.out]; exact hc', Reads.none_, (hF.below hb (.inl (Nat.le_refl _))).more hb.size⟩, hb⟩
  · have hov : ov = false := by cases ov <;> simp_all
    subst hov
    have hl63 : l.length < 63 := by
      have : l.length ≠ 63 := fun h => hend (.inr h)
      omega
    have e1 : opL l false a k = l ++ [(a, k)] := by unfold opL; rw [if_neg (by decide), if_neg (by omega)]
    have e2 : opV l false = false := by unfold opV; simp; omega
    have e3 : opE l false = 0 := by unfold opE; rw [e2]; rfl
    rw [e1, e2, e3]
    clear e1 e2 e3 h0 hend
    obtain ⟨ll, hll⟩ : ∃ ll, l.length = ll := ⟨_, rfl⟩
    obtain ⟨fl, hfl⟩ : ∃ fl, f.length = fl := ⟨_, rfl⟩
    rw [hll] at hl63 hc ⊢
    rw [hfl] at hc' ⊢
    have hn63 : ((ll : Int) == 63) = false := by simp; omega
    have HFL := Lib.hid hfl
    have HLL := Lib.hid hll
    clear hll hfl hl
    go_enter Try.func44, Try.ntmps44
    go_wp2_with (at_builtin; go_must (refine wpList_appRs encM etM rfl rfl rfl (Rw.nil (c := mkC) (sz := 3) _ (w.heap.size) 128) HLL.out.symm rfl ((hL.alloc _).alloc _) ?_ ?_ ?_ ?_))
    · have := HLL.out; unfold maxLen; simp; omega
    · have := HLL.out; simp; omega
    · simp; omega
    intro v1 w1 R1 g1 hv1
    have b0 : Below w.heap.size w ((w.alloc (.cells #[.slice A ll c, .bool false, .slice A' fl c'] 86)).alloc (.cells #[.slice none 0 0, .bool false, .slice none 0 0] 86)) := ((Below.refl _ w).alloc (Nat.le_refl _) _).alloc (by simp) _
    have b1 := b0.grown g1 (by simp; omega) (by simp [Value.ownBlock])
    have X3 : Blk w1 w.heap.size 86 #[.slice A ll c, .bool false, .slice A' fl c'] := ((Blk.new w 86 _).alloc _).grown g1 (by simp [Value.ownBlock])
    have X6 : Blk w1 (w.heap.size + 1) 86 #[.slice none 0 0, .bool false, .slice none 0 0] := (Blk.at_ (by simp)).grown g1 (by simp [Value.ownBlock])
    have hs1 : w.heap.size + 2 ≤ w1.heap.size := by have := g1.size; simp at this; omega
    have hv2 : ∀ j, v1.ownBlock = some j → j = w.heap.size + 2 := by
      intro j e
      rcases hv1 with h | h
      · rw [h] at e; simp [Value.ownBlock] at e
      · rw [h] at e; injection e with e; omega
    have R1 : Rw mkC 3 w1 w.heap.size 128 v1 l := R1
    clear g1 hv1 b0
    obtain ⟨x0, x1, x2, xf, xl⟩ := X3.c3
    obtain ⟨y0, y1, y2, yf, yl⟩ := X6.c3
    obtain ⟨A1, c1, hv1, hc1, hm1, hr1⟩ := R1.val
    rw [HLL.out] at hv1 hc1
    subst hv1
    go_wp2_with (at_builtin; go_must (refine wpList_appR (y := (a, k)) encM etM rfl rfl rfl (R1.alloc _) rfl (Blk.at_ (by simp)) rfl ?_ ?_ ?_ ?_))
    · have := HLL.out; unfold maxLen; omega
    · have := HLL.out; omega
    · show w.heap.size ≤ (w1.alloc _).heap.size
      rw [World.size_alloc]; omega
    intro g cap w2 R2 g2 hv3
    have X32 : Blk w2 w.heap.size 86 #[.slice A ll c, .bool false, .slice A' fl c'] := (X3.alloc _).grown g2 (fun e => by have := hv2 _ e.symm; omega)
    have X62 : Blk w2 (w.heap.size + 1) 86 #[.slice none 0 0, .bool false, .slice none 0 0] := (X6.alloc _).grown g2 (fun e => by have := hv2 _ e.symm; omega)
    have b2 := (b1.alloc (by omega) _).grown g2 (by simp; omega) (fun j e => by have := hv2 j e; omega)
    have hg : w.heap.size + 2 ≤ g := by
      rcases hv3 with e | e
      · have := hv2 g e; omega
      · omega
    have hgl := (R2.lt g rfl).2
    clear x0 x1 x2 xf xl y0 y1 y2 yf yl g2
    obtain ⟨x0, x1, x2, xf, xl⟩ := X32.c3
    obtain ⟨y0, y1, y2, yf, yl⟩ := X62.c3
    go_wp2
    have F3 : Frm (fun i => i = w.heap.size ∨ i = w.heap.size + 1) w2 ((((w2.setCell ⟨w.heap.size, 0, none⟩ (.slice (some ⟨g, 0, none⟩) (l.length + 1) cap)).setCell ⟨w.heap.size + 1, 0, none⟩ (.slice (some ⟨g, 0, none⟩) (l.length + 1) cap)).setCell ⟨w.heap.size + 1, 1, none⟩ (.bool false)).setCell ⟨w.heap.size + 1, 2, none⟩ (.slice A' fl c')) :=
      ((((Frm.refl (fun i => i = w.heap.size ∨ i = w.heap.size + 1) w2).set (.inl rfl) _).set (.inr rfl) _).set (.inr rfl) _).set (.inr rfl) _
    have hne : w.heap.size + 1 ≠ w.heap.size := by omega
    have B3 : Blk ((((w2.setCell ⟨w.heap.size, 0, none⟩ (.slice (some ⟨g, 0, none⟩) (l.length + 1) cap)).setCell ⟨w.heap.size + 1, 0, none⟩ (.slice (some ⟨g, 0, none⟩) (l.length + 1) cap)).setCell ⟨w.heap.size + 1, 1, none⟩ (.bool false)).setCell ⟨w.heap.size + 1, 2, none⟩ (.slice A' fl c')) (w.heap.size + 1) 86 #[.slice (some ⟨g, 0, none⟩) (l.length + 1) cap, .bool false, .slice A' fl c'] := by
      simpa using ((((X62.far (p := ⟨w.heap.size, 0, none⟩) hne (.slice (some ⟨g, 0, none⟩) (l.length + 1) cap)).set_ 0 (.slice (some ⟨g, 0, none⟩) (l.length + 1) cap)).set_ 1 (.bool false)).set_ 2 (.slice A' fl c'))
    have R3 := R2.frm F3 (fun i e => by have : g = i := by simpa [Value.ownBlock] using e
                                        omega)
    have b3 := b2.trans (F3.below b2.size (fun i hi e => by omega))
    generalize ((((w2.setCell ⟨w.heap.size, 0, none⟩ (.slice (some ⟨g, 0, none⟩) (l.length + 1) cap)).setCell ⟨w.heap.size + 1, 0, none⟩ (.slice (some ⟨g, 0, none⟩) (l.length + 1) cap)).setCell ⟨w.heap.size + 1, 1, none⟩ (.bool false)).setCell ⟨w.heap.size + 1, 2, none⟩ (.slice A' fl c')) = w3 at *
    refine bodyPost_ret (results_row1 rfl _ _ (w.heap.size + 1) 86 #[.slice (some ⟨g, 0, none⟩) (l.length + 1) cap, .bool false, .slice A' fl c'] _ rfl B3 Try.underlying86 rfl (by kernel_rfl)) rfl ?_
    exact ⟨_, rfl, ⟨some ⟨g, 0, none⟩, A', cap, c', by rw [HFL.out, List.length_append]; rfl, by have := (R3.at_ encM).2.1; exact this, by rw [HFL.out]; exact hc', R3.rd, (hF.below b3 (.inl (Nat.le_refl _))).more b3.size⟩, b3⟩
end Go.Proofs.Ytpdackbcnbhppaa

namespace Go.Proofs.Ytpdackbcnbhppaa
open Go.RowKit
attribute [local go_sem] Oper.semAt_some

theorem results_ccs {fn : Func} {p q r : Tmp} (h : fn.results = #[.cell p 86, .cell q 65, .tmp r]) (tmps : Array Value) (w : World) (g k : Nat) (cs : Array Value) (x y : Int) (hp : tmps.getD p undef = .pointer (some ⟨g, 0, none⟩)) (hq : tmps.getD q undef = .pointer (some ⟨k, 0, none⟩))
    (hcs : cs.size = 3) (hg : Blk w g 86 cs) (hk : Blk w k 65 #[.int .i64 x, .int .i64 y]) : (results fn tmps).run Try.prog w = .ok (.tuple #[.agg cs, .agg #[.int .i64 x, .int .i64 y], tmps.getD r undef]) w := by
  have hp' : tmps[p]?.getD undef = .pointer (some ⟨g, 0, none⟩) := by simpa using hp
  have hq' : tmps[q]?.getD undef = .pointer (some ⟨k, 0, none⟩) := by simpa using hq
  have h1 := run_loadVar_row w g 86 86 cs (0, 0) _ hg Try.underlying86 rfl (by rw [hcs]; kernel_rfl)
  have h2 := run_loadVar_row w k 65 65 #[.int .i64 x, .int .i64 y] (0, 0) _ hk Try.underlying65 rfl (by kernel_rfl)
  simp [results, h, hp', hq', asAddr, h1, h2]

set_option maxRecDepth 100000 in
set_option maxHeartbeats 2000000 in
theorem rClose_ok {w : World} {pv : Value} {l f : List (Int × Int)} {ov : Bool} (a k : Int) (h : RPil w pv l f ov) (hl : l.length ≤ 1048576) (hf : f.length ≤ 1048576) :
    Calls Try.prog 42 #[pv, .int .i64 a, .int .i32 k] w fun r w' => ∃ pv', r = .returned (.tuple #[pv', .agg #[.int .i64 (clB l a k).1, .int .i64 (clB l a k).2], .bool (clI l k)]) ∧ RPil w' pv' (clL l k) (clF l f a k) ov ∧ Below w.heap.size w w' := by
  obtain ⟨A, A', c, c', rfl, hc, hc', hL, hF⟩ := h
  obtain ⟨ll, hll⟩ : ∃ ll, l.length = ll := ⟨_, rfl⟩
  obtain ⟨fl, hfl⟩ : ∃ fl, f.length = fl := ⟨_, rfl⟩
  rw [hll] at hc hl ⊢
  rw [hfl] at hc' hf ⊢
  have HFL := Lib.hid hfl
  have HLL := Lib.hid hll
  clear hll hfl
  obtain ⟨W1, hW1⟩ : ∃ W1, (((w.alloc (.cells #[.slice A ll c, .bool ov, .slice A' fl c'] 86)).alloc (.cells #[.slice none 0 0, .bool false, .slice none 0 0] 86)).alloc (.cells #[.int .i64 0, .int .i64 0] 65)) = W1 := ⟨_, rfl⟩
  have hsz : W1.heap.size = w.heap.size + 1 + 1 + 1 := by rw [← hW1]; simp
  have b1 : Below w.heap.size w W1 := by rw [← hW1]; exact (((Below.refl _ w).alloc (Nat.le_refl _) _).alloc (by simp) _).alloc (by simp; omega) _
  have X3 : Blk W1 w.heap.size 86 #[.slice A ll c, .bool ov, .slice A' fl c'] := by rw [← hW1]; exact ((Blk.new w 86 _).alloc _).alloc _
  have X6 : Blk W1 (w.heap.size + 1) 86 #[.slice none 0 0, .bool false, .slice none 0 0] := by rw [← hW1]; exact (Blk.at_ (by simp)).alloc _
  have X7 : Blk W1 (w.heap.size + 1 + 1) 65 #[.int .i64 0, .int .i64 0] := by rw [← hW1]; exact Blk.at_ (by simp)
  have hL1 := hL.below b1 (.inl (Nat.le_refl _))
  have hF1 := hF.below b1 (.inl (Nat.le_refl _))
  have HW1 := Lib.hid hW1
  clear hW1
  obtain ⟨x0, x1, x2, xf, xl⟩ := X3.c3
  go_enter Try.func42, Try.ntmps42
  go_upto_region 1 with (fail)
  rw [HW1.out]
  go_wp2
  go_loopg [9] ll (fun gk iv wr => ∃ j : Nat, gk = j ∧ iv = .int .i64 ((j : Int) - 1) ∧ j ≤ ll ∧ scanK l k ll = scanK l k j ∧ wr = W1)
  case atStart => exact ⟨ll, rfl, by go_num, Nat.le_refl _, rfl, rfl⟩
  case round =>
    obtain ⟨j, hgk, rfl, hj, hsc, rfl⟩ := hrel
    have HGK := Lib.hid hgk
    clear hgk
    rcases j with _ | j
    · have hs : scanK l k l.length = none := by rw [HLL.out]; exact hsc
      have e1 : clL l k = l := by unfold clL; rw [hs]
      have e2 : clF l f a k = f := by unfold clF; rw [hs]
      have e3 : clB l a k = (0, 0) := by unfold clB; rw [hs]
      have e4 : clI l k = false := by unfold clI; rw [hs]; rfl
      clear hs hsc
      have E1 := Lib.hid e1
      have E2 := Lib.hid e2
      have E3 := Lib.hid e3
      have E4 := Lib.hid e4
      clear e1 e2 e3 e4
      obtain ⟨y0, y1, y2, yf, yl⟩ := X6.c3
      obtain ⟨z0, z1, zf, zl⟩ := X7.c2
      go_wp2
      rw [E1.out, E2.out, E3.out, E4.out]
      have B6 := (blk_put3 (.slice A ll c) (.bool ov) (.slice A' fl c') X6)
      have F6 := frm_put3 wr (w.heap.size + 1) (.slice A ll c) (.bool ov) (.slice A' fl c')
      have B7 := X7.frm F6 (by omega)
      generalize ((wr.setCell ⟨w.heap.size + 1, 0, none⟩ (.slice A ll c)).setCell ⟨w.heap.size + 1, 1, none⟩ (.bool ov)).setCell ⟨w.heap.size + 1, 2, none⟩ (.slice A' fl c') = WA at *
      have B72 := blk_put2 (.int .i64 0) (.int .i64 0) B7
      have F7 := frm_put2 WA (w.heap.size + 1 + 1) (.int .i64 0) (.int .i64 0)
      have B62 := B6.frm F7 (by omega)
      have bF := (b1.trans (F6.below b1.size (fun i hi e => by omega))).trans (F7.below (by have := F6.size; have := b1.size; omega) (fun i hi e => by omega))
      generalize (WA.setCell ⟨w.heap.size + 1 + 1, 0, none⟩ (.int .i64 0)).setCell ⟨w.heap.size + 1 + 1, 1, none⟩ (.int .i64 0) = WB at *
      refine bodyPost_ret (results_ccs rfl _ _ (w.heap.size + 1) (w.heap.size + 1 + 1) _ _ _ rfl rfl rfl B62 B72) rfl ?_
      exact ⟨_, rfl, ⟨A, A', c, c', by rw [HLL.out, HFL.out], by rw [HLL.out]; exact hc, by rw [HFL.out]; exact hc', (hL.below bF (.inl (Nat.le_refl _))).more bF.size, (hF.below bF (.inl (Nat.le_refl _))).more bF.size⟩, bF⟩
    · have e1 : (((j + 1 : Nat) : Int) - 1) = (j : Int) := by omega
      rw [e1]
      obtain ⟨x, hx⟩ : ∃ x, l.getD j (0, 0) = x := ⟨_, rfl⟩
      have hx2 : l[j]? = some x := by rw [← hx, List.getD_eq_getElem?_getD, List.getElem?_eq_getElem (by have := HLL.out; omega)]; rfl
      have hsj : scanK l k (j + 1) = if x.2 = k then some j else scanK l k j := by rw [← hx]; rfl
      rw [hsj] at hsc
      have HSC := Lib.hid hsc
      obtain ⟨ab, off, rfl, ha1, ha2, hcc⟩ := hL1.at_ encM hx2 (by omega)
      have c0 := hcc 0 _ rfl
      have c2 := hcc 2 _ rfl
      rw [Nat.add_zero] at c0
      rw [← Nat.add_assoc] at c2
      have HX := Lib.hid hx
      clear hsc hsj hx hx2 hcc e1
      by_cases hk : x.2 = k
      · have hkk : (x.2 == k) = true := by simpa using hk
        have hjl : j < ll := by omega
        have hjc : j ≤ c := by omega
        go_wp2_with (at_builtin; go_must (refine wpList_appRs encB etB rfl rfl rfl (Rw.nil (c := brC) (sz := 2) _ (w.heap.size + 1 + 1 + 1) 65) HFL.out.symm rfl (Reads.alloc (Reads.setCell hF1 (p := ⟨w.heap.size, 0, none⟩) (Nat.le_refl _) _) _) ?_ ?_ ?_ ?_))
        · have := HFL.out; unfold maxLen; simp; omega
        · have := HFL.out; simp; omega
        · simp; omega
        intro v1 w1 R1 g1 hv1
        have b0 : Below w.heap.size w ((wr.setCell ⟨w.heap.size, 0, none⟩ (.slice (some ⟨ab, off, none⟩) j c)).alloc (.cells #[.int .i64 x.1, .int .i64 a] 65)) := (b1.setCell (p := ⟨w.heap.size, 0, none⟩) (by simp) _).alloc (by simp; omega) _
        have b2 := b0.grown g1 (by simp; omega) (by simp [Value.ownBlock])
        have Y3 : Blk w1 w.heap.size 86 #[.slice (some ⟨ab, off, none⟩) j c, .bool ov, .slice A' fl c'] := by
          have := ((X3.set_ 0 (.slice (some ⟨ab, off, none⟩) j c)).alloc (.cells #[.int .i64 x.1, .int .i64 a] 65)).grown g1 (by simp [Value.ownBlock])
          simpa using this
        have Y6 : Blk w1 (w.heap.size + 1) 86 #[.slice none 0 0, .bool false, .slice none 0 0] := ((X6.far (p := ⟨w.heap.size, 0, none⟩) (by simp) _).alloc _).grown g1 (by simp [Value.ownBlock])
        have Y7 : Blk w1 (w.heap.size + 1 + 1) 65 #[.int .i64 0, .int .i64 0] := ((X7.far (p := ⟨w.heap.size, 0, none⟩) (by simp; omega) _).alloc _).grown g1 (by simp [Value.ownBlock])
        have Y8 : Blk w1 (w.heap.size + 1 + 1 + 1) 65 #[.int .i64 x.1, .int .i64 a] := (Blk.at_ (by simp; omega)).grown g1 (by simp [Value.ownBlock])
        have hs1 : w.heap.size + 1 + 1 + 1 + 1 ≤ w1.heap.size := by have := g1.size; simp at this; omega
        have hv2 : ∀ i, v1.ownBlock = some i → i = w.heap.size + 1 + 1 + 1 + 1 := by
          intro i e
          rcases hv1 with h | h
          · rw [h] at e; simp [Value.ownBlock] at e
          · rw [h] at e; injection e with e; omega
        have R1 : Rw brC 2 w1 (w.heap.size + 1 + 1 + 1) 65 v1 f := R1
        clear g1 hv1 b0 x0 x1 x2 xf xl
        obtain ⟨x0, x1, x2, xf, xl⟩ := Y3.c3
        obtain ⟨p0, p1, pf, pl⟩ := Y8.c2
        obtain ⟨A1, c1, hv1, hc1, hm1, hr1⟩ := R1.val
        rw [HFL.out] at hv1 hc1
        subst hv1
        go_wp2_with (at_builtin; go_must (refine wpList_appR (y := (x.1, a)) encB etB rfl rfl rfl (R1.alloc _) rfl (Blk.at_ (by simp)) rfl ?_ ?_ ?_ ?_))
        · have := HFL.out; unfold maxLen; omega
        · have := HFL.out; omega
        · show w.heap.size + 1 + 1 + 1 ≤ (w1.alloc _).heap.size
          rw [World.size_alloc]; omega
        intro g cap w2 R2 g2 hv3
        have Z3 := (Y3.alloc (.cells #[.int .i64 x.1, .int .i64 a] 65)).grown g2 (fun e => by have := hv2 _ e.symm; omega)
        have Z6 := (Y6.alloc (.cells #[.int .i64 x.1, .int .i64 a] 65)).grown g2 (fun e => by have := hv2 _ e.symm; omega)
        have Z7 := (Y7.alloc (.cells #[.int .i64 x.1, .int .i64 a] 65)).grown g2 (fun e => by have := hv2 _ e.symm; omega)
        have Z8 := (Y8.alloc (.cells #[.int .i64 x.1, .int .i64 a] 65)).grown g2 (fun e => by have := hv2 _ e.symm; omega)
        have b3 := (b2.alloc (by omega) (.cells #[.int .i64 x.1, .int .i64 a] 65)).grown g2 (by simp; omega) (fun j e => by have := hv2 j e; omega)
        have hg : w.heap.size + 1 + 1 + 1 + 1 ≤ g := by
          rcases hv3 with e | e
          · have := hv2 g e; omega
          · omega
        clear x0 x1 x2 xf xl p0 p1 pf pl g2
        obtain ⟨x0, x1, x2, xf, xl⟩ := Z3.c3
        obtain ⟨y0, y1, y2, yf, yl⟩ := Z6.c3
        obtain ⟨z0, z1, zf, zl⟩ := Z7.c2
        obtain ⟨p0, p1, pf, pl⟩ := Z8.c2
        go_wp2
        go_region
        all_goals
          go_wp2
          have hs : scanK l k l.length = some j := by rw [HLL.out]; have := HSC.out; rw [if_pos hk] at this; exact this
          have e1 : clL l k = l.take j := by unfold clL; rw [hs]
          have e2 : clF l f a k = f ++ [(x.1, a)] := by unfold clF; rw [hs, ← HX.out]
          have e3 : clB l a k = (x.1, a) := by unfold clB; rw [hs, ← HX.out]
          have e4 : clI l k = true := by unfold clI; rw [hs]; rfl
          rw [e1, e2, e3, e4]
          have F5 : Frm (fun i => i = w.heap.size) w2 (w2.setCell ⟨w.heap.size, 2, none⟩ (.slice (some ⟨g, 0, none⟩) (f.length + 1) cap)) := (Frm.refl (fun i => i = w.heap.size) w2).set rfl _
          have V6 := Z6.frm F5 (by omega)
          have V7 := Z7.frm F5 (by omega)
          have R5 := R2.frm F5 (fun i e => by have : g = i := by simpa [Value.ownBlock] using e
                                              omega)
          have b5 := b3.trans (F5.below b3.size (fun i hi e => by omega))
          generalize w2.setCell ⟨w.heap.size, 2, none⟩ (.slice (some ⟨g, 0, none⟩) (f.length + 1) cap) = WA at *
          have B6 := (blk_put3 (.slice (some ⟨ab, off, none⟩) j c) (.bool ov) (.slice (some ⟨g, 0, none⟩) (f.length + 1) cap) V6)
          have F6 := frm_put3 WA (w.heap.size + 1) (.slice (some ⟨ab, off, none⟩) j c) (.bool ov) (.slice (some ⟨g, 0, none⟩) (f.length + 1) cap)
          have B7 := V7.frm F6 (by omega)
          have R6 := R5.frm F6 (fun i e => by have : g = i := by simpa [Value.ownBlock] using e
                                              omega)
          generalize ((WA.setCell ⟨w.heap.size + 1, 0, none⟩ (.slice (some ⟨ab, off, none⟩) j c)).setCell ⟨w.heap.size + 1, 1, none⟩ (.bool ov)).setCell ⟨w.heap.size + 1, 2, none⟩ (.slice (some ⟨g, 0, none⟩) (f.length + 1) cap) = WB at *
          have B72 := blk_put2 (.int .i64 x.1) (.int .i64 a) B7
          have F7 := frm_put2 WB (w.heap.size + 1 + 1) (.int .i64 x.1) (.int .i64 a)
          have B62 := B6.frm F7 (by omega)
          have R7 := R6.frm F7 (fun i e => by have : g = i := by simpa [Value.ownBlock] using e
                                              omega)
          have bF := (b5.trans (F6.below b5.size (fun i hi e => by omega))).trans (F7.below (by have := F6.size; have := b5.size; omega) (fun i hi e => by omega))
          generalize (WB.setCell ⟨w.heap.size + 1 + 1, 0, none⟩ (.int .i64 x.1)).setCell ⟨w.heap.size + 1 + 1, 1, none⟩ (.int .i64 a) = WC at *
          refine bodyPost_ret (results_ccs rfl _ _ (w.heap.size + 1) (w.heap.size + 1 + 1) _ _ _ rfl rfl rfl B62.drew B72.drew) rfl ?_
          have hLF := (hL.below bF (.inl (Nat.le_refl _))).more bF.size
          have hLt : RdR mkC 3 WC WC.heap.size (some ⟨ab, off, none⟩) (l.take j) := by
            have hjl2 : j ≤ l.length := by have := HLL.out; omega
            refine ⟨fm_len encM _, fun h0 => ?_⟩
            obtain ⟨b', off', e, q1, q2, q3⟩ := hLF.2 (by rw [List.length_take] at h0; omega)
            refine ⟨b', off', e, q1, q2, fun i v hi => q3 i v ?_⟩
            rw [fm_take encM, List.getElem?_take] at hi
            split at hi
            · exact hi
            · cases hi
          exact ⟨_, rfl, ⟨some ⟨ab, off, none⟩, some ⟨g, 0, none⟩, c, cap, by rw [List.length_take, HLL.out, Nat.min_eq_left (by omega), List.length_append]; rfl, by rw [List.length_take]; omega, (R7.at_ encB).2.1, hLt.drew, R7.rd.drew⟩, bF.drew⟩
      · have hkk : (x.2 == k) = false := by simpa using hk
        go_wp2
        go_roundg j
        case rel => exact ⟨j, rfl, by go_num, by omega, by have := HSC.out; rw [if_neg hk] at this; exact this, rfl⟩
        case measure => have := HGK.out; omega
end Go.Proofs.Ytpdackbcnbhppaa

namespace Go.Proofs.Ytpdackbcnbhppaa
open Go.RowKit
attribute [local go_sem] Oper.semAt_some

theorem fm_drop {α : Type} {c : α → List Value} {sz : Nat} (E : Enc c sz) (l : List α) (i : Nat) : (l.drop i).flatMap c = (l.flatMap c).drop (i * sz) := by
  rcases Nat.le_total i l.length with h | h
  · have h1 : l.flatMap c = (l.take i).flatMap c ++ (l.drop i).flatMap c := by rw [← List.flatMap_append, List.take_append_drop]
    rw [h1, List.drop_append_of_le_length (by rw [fm_len E, List.length_take]; exact Nat.mul_le_mul_right _ (by omega))]
    have : (List.drop (i * sz) ((l.take i).flatMap c)) = [] := by
      rw [List.drop_eq_nil_iff, fm_len E, List.length_take]
      exact Nat.mul_le_mul_right _ (by omega)
    rw [this, List.nil_append]
  · rw [List.drop_eq_nil_of_le h, List.drop_eq_nil_of_le (by rw [fm_len E]; exact Nat.mul_le_mul_right _ h)]
    rfl
theorem RdR.take {α : Type} {c : α → List Value} {sz : Nat} (E : Enc c sz) {W : World} {B : Nat} {A : Option Addr} {l : List α} (h : RdR c sz W B A l) {j : Nat} (hj : j ≤ l.length) : RdR c sz W B A (l.take j) := by
  refine ⟨fm_len E _, fun h0 => ?_⟩
  obtain ⟨b', off', e, q1, q2, q3⟩ := h.2 (by rw [List.length_take] at h0; omega)
  refine ⟨b', off', e, q1, q2, fun i v hi => q3 i v ?_⟩
  rw [fm_take E, List.getElem?_take] at hi
  split at hi
  · exact hi
  · cases hi
theorem RdR.drop {α : Type} {c : α → List Value} {sz : Nat} (E : Enc c sz) {W : World} {B b off : Nat} {l : List α} (h : RdR c sz W B (some ⟨b, off, none⟩) l) (j : Nat) : RdR c sz W B (some ⟨b, off + j * sz, none⟩) (l.drop j) := by
  refine ⟨fm_len E _, fun h0 => ?_⟩
  obtain ⟨b', off', e, q1, q2, q3⟩ := h.2 (by rw [List.length_drop] at h0; omega)
  injection e with e
  injection e with e1 e2 e3
  subst e1 e2
  refine ⟨b, off + j * sz, rfl, q1, q2, fun i v hi => ?_⟩
  rw [fm_drop E, List.getElem?_drop] at hi
  rw [Nat.add_assoc]
  exact q3 _ v hi

set_option maxRecDepth 100000 in
set_option maxHeartbeats 4000000 in
theorem rSorted_ok {w : World} {B n c : Nat} {A : Option Addr} {f : List (Int × Int)} (hn : n = f.length) (h : RdR brC 2 w B A f) (hm : n ≤ 1048576) :
    Calls Try.prog 47 #[.slice A n c] w fun r w' => ∃ v, r = .returned v ∧ Rw brC 2 w' w.heap.size 65 v (ssort f) ∧ Below w.heap.size w w' := by
  have HN := Lib.hid hn
  clear hn
  go_enter Try.func47, Try.ntmps47
  go_wp2
  go_loopg [3, 4] n (fun gk ov iv wr => ∃ i : Nat, i + gk = n ∧ iv = .int .i64 i ∧ Rw brC 2 wr w.heap.size 65 ov (ssort (f.take i)) ∧ Below w.heap.size w wr)
  case atStart => exact ⟨0, by omega, rfl, Rw.nil _ _ _, Below.refl _ _⟩
  case round =>
    obtain ⟨i, hi, rfl, hR, hb⟩ := hrel
    have HI := Lib.hid hi
    clear hi
    by_cases hlt : i < n
    · obtain ⟨x, hx⟩ : ∃ x, f[i]? = some x := ⟨_, List.getElem?_eq_getElem (by have := HN.out; omega)⟩
      have h1 := h.below hb (.inr (Nat.le_refl _))
      obtain ⟨fb, fo, rfl, f1, f2, hc⟩ := h1.at_ encB hx (by omega)
      have c0 := hc 0 _ rfl
      have c1 := hc 1 _ rfl
      rw [Nat.add_zero] at c0
      rw [← Nat.add_assoc] at c1
      have htk : ssort (f.take (i + 1)) = ins x (ssort (f.take i)) := by
        rw [← ssort_snoc, List.take_add_one, hx]; rfl
      have hss := ssort_srt (f.take i)
      obtain ⟨O, hO⟩ : ∃ O, ssort (f.take i) = O := ⟨_, rfl⟩
      rw [hO] at hR htk hss
      have hol : O.length = i := by rw [← hO, ssort_length, List.length_take]; have := HN.out; omega
      have HTK := Lib.hid htk
      have HSS := Lib.hid hss
      obtain ⟨oA, oc, rfl, ho1, ho2, hoR⟩ := hR.val
      rw [hol] at ho1 ⊢
      have HOL := Lib.hid hol
      clear hc htk hss hO hol
      obtain ⟨W0, rfl⟩ : ∃ W0, W0 = wr := ⟨_, rfl⟩
      go_upto_block 2 with (fail)
      go_cut [5] from 15 to 32 (fun av wx => ∃ (a m : Nat), av = .int .i64 a ∧ a ≤ i ∧ (∀ y ∈ O.drop a, x.1 < y.1) ∧ (∀ y, (O.take a).getLast? = some y → y.1 ≤ x.1) ∧ wx = W0.drewN m)
      case first =>
        go_wp2
        go_loopg [5] i (fun gk av wr => ∃ (a m : Nat), a = gk ∧ av = .int .i64 a ∧ a ≤ i ∧ (∀ y ∈ O.drop a, x.1 < y.1) ∧ wr = W0.drewN m)
        case atStart => exact ⟨i, 0, rfl, rfl, Nat.le_refl _, by rw [List.drop_eq_nil_of_le (by have := HOL.out; omega)]; simp, rfl⟩
        case round =>
          obtain ⟨a, m, hga, rfl, hai, hgt, rfl⟩ := hrel
          have HGA := Lib.hid hga
          have HGT := Lib.hid hgt
          clear hga hgt
          rcases Nat.eq_zero_or_pos a with h0 | h0
          · subst h0
            have hd2 : decide ((0 : Int) < ((0 : Nat) : Int)) = false := by simp
            go_wp2
            go_quiet (fail)
            go_wp2
            go_meet
            exact ⟨0, m + nq, rfl, Nat.zero_le _, HGT.out, by simp, by simp [World.drewN, Nat.add_assoc]⟩
          · obtain ⟨p, hp⟩ : ∃ p, p + 1 = a := ⟨a - 1, by omega⟩
            obtain ⟨y, hy⟩ : ∃ y, O[p]? = some y := ⟨_, List.getElem?_eq_getElem (by have := HOL.out; omega)⟩
            obtain ⟨ob, oo, rfl, o1, o2, hc⟩ := hoR.at_ encB hy (by omega)
            have d0 := hc 0 _ rfl
            rw [Nat.add_zero] at d0
            have e1 : IntKind.i64.wrap ((a : Int) - 1) = (p : Int) := by rw [IntWalk.i64_in _ (by omega)]; omega
            have hai2 : p < i := by omega
            have HY := Lib.hid hy
            clear hc hy
            by_cases hxy : x.1 < y.1
            · go_wp2
              go_quiet (fail)
              go_wp2
              go_roundg p
              case rel =>
                refine ⟨p, _, rfl, rfl, by omega, fun z hz => ?_, rfl⟩
                have : O.drop p = y :: O.drop (p + 1) := by
                  rw [List.drop_eq_getElem_cons (by have := HOL.out; omega)]
                  have := HY.out
                  rw [List.getElem?_eq_getElem (by have := HOL.out; omega)] at this
                  rw [Option.some.inj this]
                rw [this] at hz
                rcases List.mem_cons.1 hz with rfl | hz
                · exact hxy
                · rw [hp] at hz; exact HGT.out z hz
              case measure => have := HGA.out; omega
            · have hd2 : decide (x.1 < y.1) = false := by simpa using hxy
              go_wp2
              go_quiet (fail)
              go_wp2
              go_meet
              refine ⟨a, m + nq, rfl, hai, HGT.out, fun z hz => ?_, by simp [World.drewN, Nat.add_assoc]⟩
              have : (O.take a).getLast? = some y := by
                rw [← hp, List.take_add_one, HY.out]; simp
              rw [this] at hz
              injection hz with hz
              subst hz; omega
      case rest =>
        obtain ⟨a, m, rfl, hai, hgt, hle, rfl⟩ := hcut
        have hfin : O.take a ++ x :: O.drop a = ins x O := by
          have := ins_done (x := x) (L := O.take a) (G := O.drop a) (by rw [List.take_append_drop]; exact HSS.out) hgt hle
          rw [List.take_append_drop] at this
          exact this
        have hT : RdR brC 2 (W0.drewN m) W0.heap.size oA (O.take a) := hoR.take encB (by have := HOL.out; omega)
        have hD : ∀ b off, oA = some ⟨b, off, none⟩ → RdR brC 2 W0 W0.heap.size (some ⟨b, off + a * 2, none⟩) (O.drop a) := fun b off e => by rw [e] at hoR; exact hoR.drop encB a
        have htl : (O.take a).length = a := by rw [List.length_take]; have := HOL.out; omega
        have hdl : (O.drop a).length = i - a := by rw [List.length_drop, HOL.out]
        obtain ⟨T, hTT⟩ : ∃ T, O.take a = T := ⟨_, rfl⟩
        obtain ⟨D, hDD⟩ : ∃ D, O.drop a = D := ⟨_, rfl⟩
        rw [hTT] at hfin hT htl
        rw [hDD] at hfin hD hdl
        rw [← HTK.out] at hfin
        have HFIN := Lib.hid hfin
        have HTL := Lib.hid htl
        have HDL := Lib.hid hdl
        clear hfin hgt hle htl hdl hTT hDD
        have hac : a ≤ oc := by omega
        go_wp2_with (at_builtin; go_must (refine wpList_appRs encB etB rfl rfl rfl (Rw.nil (c := brC) (sz := 2) _ (w.heap.size) 65) HTL.out.symm rfl hT ?_ ?_ ?_ ?_))
        · have := HTL.out; unfold maxLen; simp; omega
        · have := HTL.out; simp; omega
        · exact hb.size
        intro v1 w1 R1 g1 hv1
        have R1 : Rw brC 2 w1 w.heap.size 65 v1 T := R1
        have g1 : W0.grownBy w1 (Value.slice none 0 0).ownBlock := ⟨g1.os, g1.tape, g1.output, g1.size, g1.block⟩
        have hv1 : ∀ j, v1.ownBlock = some j → j = W0.heap.size := by
          intro j e
          rcases hv1 with h | h
          · rw [h] at e; simp [Value.ownBlock] at e
          · rw [h] at e; injection e with e; exact e.symm
        have b1 : Below W0.heap.size W0 w1 := (Below.refl _ W0).grown g1 (Nat.le_refl _) (by simp [Value.ownBlock])
        have x0 : w1.cell? ⟨fb, fo + i * 2, none⟩ = some (.int .i64 x.1) := ((bcell b1).1 fb _ f2).trans c0
        have x1 : w1.cell? ⟨fb, fo + i * 2 + 1, none⟩ = some (.int .i64 x.2) := ((bcell b1).1 fb _ f2).trans c1
        clear g1 c0 c1
        obtain ⟨A1, k1, hvv, _, _, _⟩ := R1.val
        rw [HTL.out] at hvv
        subst hvv
        go_wp2_with (at_builtin; go_must (refine wpList_appR (y := x) encB etB rfl rfl rfl (R1.alloc _) rfl (Blk.at_ (by simp)) rfl ?_ ?_ ?_ ?_))
        · have := HTL.out; unfold maxLen; omega
        · have := HTL.out; omega
        · have := hb.size; have := b1.size
          show w.heap.size ≤ (w1.alloc _).heap.size
          rw [World.size_alloc]; omega
        intro g2 k2 w2 R2 gr2 hv2
        have hl2 : (T ++ [x]).length = a + 1 := by rw [List.length_append, HTL.out]; rfl
        rw [HTL.out] at R2 ⊢
        have b2 : Below W0.heap.size W0 w2 := (b1.alloc b1.size _).grown gr2 (by have := b1.size; simp; omega) (fun j e => by have := hv1 j e; omega)
        have hg2 : W0.heap.size ≤ g2 := by
          rcases hv2 with e | e
          · have := hv1 g2 e; omega
          · have := b1.size; omega
        obtain ⟨U, hU⟩ : ∃ U, T ++ [x] = U := ⟨_, rfl⟩
        rw [hU] at R2 hl2
        have HU := Lib.hid hU
        have HL2 := Lib.hid hl2
        clear gr2 hv2 hl2 hU x0 x1
        have hf : U ++ D = ssort (f.take (i + 1)) := by rw [← HFIN.out, ← HU.out]; simp
        have HF := Lib.hid hf
        clear hf
        rcases oA with _ | ad
        · have hi0 : i = 0 := by
            rcases hR.cases' with ⟨e, _⟩ | ⟨g, cap, e, _⟩
            · injection e with _ e; have := HOL.out; omega
            · cases e
          subst hi0
          have ha0 : a = 0 := by omega
          subst ha0
          have hdn : RdR brC 2 w2 0 none D := by
            have hd0 : D = [] := List.eq_nil_of_length_eq_zero HDL.out
            rw [hd0]; exact Reads.none_
          clear hD
          go_wp2_with (at_builtin; go_must (refine wpList_appRs encB etB rfl rfl rfl R2 HDL.out.symm rfl hdn ?_ ?_ ?_ ?_))
          · have := HDL.out; have := HL2.out; unfold maxLen; omega
          · have := HDL.out; have := HL2.out; omega
          · have := hb.size; have := b2.size; omega
          intro v3 w3 R3 g3 hv3
          rw [HF.out] at R3
          have b3 : Below W0.heap.size W0 w3 := b2.grown g3 b2.size (fun j e => by have : g2 = j := by simpa [Value.ownBlock] using e
                                                                                   omega)
          go_wp2
          go_roundg (n - (0 + 1))
          case rel => exact ⟨0 + 1, by omega, by go_num, R3, hb.trans (b3.mono hb.size)⟩
          case measure => have := HI.out; omega
        · obtain ⟨ob, rfl⟩ : ∃ ob, ad = ⟨ob, 0, none⟩ := by
            rcases hR.cases' with ⟨e, _⟩ | ⟨g, cap, e, _⟩
            · cases e
            · injection e with e; injection e with e; exact ⟨g, e⟩
          have hD2 := (hD ob 0 rfl).below b2 (.inl (Nat.le_refl _))
          rw [Nat.zero_add] at hD2
          have hD3 : RdR brC 2 w2 W0.heap.size (if oc = a then some ⟨ob, 0, none⟩ else some ⟨ob, a * 2, none⟩) D := by
            split
            · have hd0 : D = [] := List.eq_nil_of_length_eq_zero (by have := HDL.out; omega)
              rw [hd0]
              exact ⟨rfl, fun h => by cases h⟩
            · exact hD2
          clear hD2
          go_wp2_with (at_builtin; go_must (refine wpList_appRs encB etB rfl rfl rfl R2 HDL.out.symm rfl hD3 ?_ ?_ ?_ ?_))
          · have := HDL.out; have := HL2.out; unfold maxLen; omega
          · have := HDL.out; have := HL2.out; omega
          · have := hb.size; have := b2.size; omega
          all_goals
            intro v3 w3 R3 g3 hv3
            rw [HF.out] at R3
            have b3 : Below W0.heap.size W0 w3 := b2.grown g3 b2.size (fun j e => by have : g2 = j := by simpa [Value.ownBlock] using e
                                                                                     omega)
            go_wp2
            go_roundg (n - (i + 1))
            case rel => exact ⟨i + 1, by omega, by go_num, R3, hb.trans (b3.mono hb.size)⟩
            case measure => have := HI.out; omega
    · have hfe : f.take i = f := List.take_of_length_le (by have := HN.out; have := HI.out; omega)
      rw [hfe] at hR
      clear hfe
      go_wp2
      go_ret
      exact ⟨_, rfl, hR, hb⟩
end Go.Proofs.Ytpdackbcnbhppaa
