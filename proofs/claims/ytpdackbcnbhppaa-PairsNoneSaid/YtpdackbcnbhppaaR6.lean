/- The reference's pile: Open and Close. -/
import Derived.Test.YtpdackbcnbhppaaR5
namespace Go.Proofs.Ytpdackbcnbhppaa
open Go.RowKit
attribute [local go_sem] Oper.semAt_some

/-- An opening bracket on the reference's pile. -/
def mkC (x : Int × Int) : List Value := [.int .i64 x.1, .int .u8 1, .int .i32 x.2]
theorem encM : Enc mkC 3 := ⟨fun _ => rfl, fun x u hu => by simp [mkC] at hu; rcases hu with rfl | rfl | rfl <;> rfl⟩
theorem etM : ElemT Try.prog 84 128 3 16 := ElemT.mk' (.agg #[.int .i64 0, .int .u8 0, .int .i32 0]) Try.underlying84 (by kernel_rfl) rfl (by omega)

/-- The reference's pile, as a value. -/
def RPil (W : World) (pv : Value) (l f : List (Int × Int)) (ov : Bool) : Prop :=
  ∃ (A A' : Option Addr) (c c' : Nat), pv = .agg #[.slice A l.length c, .bool ov, .slice A' f.length c'] ∧ l.length ≤ c ∧ f.length ≤ c' ∧ RdR mkC 3 W W.heap.size A l ∧ RdR brC 2 W W.heap.size A' f
theorem RPil.below {W W' : World} {pv : Value} {l f : List (Int × Int)} {ov : Bool} (h : RPil W pv l f ov) {C : Nat} (hb : Below C W W') (hC : W.heap.size ≤ C) : RPil W' pv l f ov := by
  obtain ⟨A, A', c, c', h1, h2, h3, h4, h5⟩ := h
  exact ⟨A, A', c, c', h1, h2, h3, (h4.below hb (.inr hC)).more hb.size, (h5.below hb (.inr hC)).more hb.size⟩
theorem RPil.frm {W W' : World} {pv : Value} {l f : List (Int × Int)} {ov : Bool} (h : RPil W pv l f ov) (hF : Frm (fun _ => False) W W') : RPil W' pv l f ov := h.below (hF.below (Nat.le_refl _) (fun _ _ => id)) (Nat.le_refl _)

theorem RdR.cons_some {α : Type} {c : α → List Value} {sz : Nat} {W : World} {B : Nat} {A : Option Addr} {l : List α} (h : RdR c sz W B A l) (hl : 0 < l.length) : ∃ b off, A = some ⟨b, off, none⟩ ∧ b < B ∧ b < W.heap.size := by
  obtain ⟨b, off, h1, h2, h3, _⟩ := h.2 hl
  exact ⟨b, off, h1, h2, h3⟩

set_option maxRecDepth 100000 in
set_option maxHeartbeats 2000000 in
theorem rOpen_ok {w : World} {pv : Value} {l f : List (Int × Int)} {ov : Bool} (a k : Int) (h : RPil w pv l f ov) (hl : l.length ≤ 63) (hov : ov = true → l = []) :
    Calls Try.prog 44 #[pv, .int .i64 a, .int .i32 k] w fun r w' => ∃ pv', r = .returned (.tuple #[pv', .int .i64 (opE l ov)]) ∧ RPil w' pv' (opL l ov a k) f (opV l ov) ∧ Below w.heap.size w w' := by
  have h0 := h
  obtain ⟨A, A', c, c', rfl, hc, hc', hL, hF⟩ := h
  by_cases hend : ov = true ∨ l.length = 63
  · have e1 : opL l ov a k = [] := by
      unfold opL
      rcases hend with h | h
      · rw [if_pos h, hov h]
      · split
        · rename_i h2; exact hov h2
        · rw [if_pos (by omega)]
    have e2 : opV l ov = true := by unfold opV; rcases hend with h | h <;> simp [h]
    have e3 : opE l ov = 3 := by unfold opE; rw [if_pos e2]
    rw [e1, e2, e3]
    have hg : (ov || (l.length : Int) == 63) = true := by
      rcases hend with h | h
      · simp [h]
      · simp; right; omega
    clear e1 e2 e3 h0
    obtain ⟨ll, hll⟩ : ∃ ll, l.length = ll := ⟨_, rfl⟩
    obtain ⟨fl, hfl⟩ : ∃ fl, f.length = fl := ⟨_, rfl⟩
    rw [hll] at hend hl ⊢
    rw [hfl] at hc' ⊢
    have HFL := Lib.hid hfl
    clear hll hov hL hfl hc hg
    have hb : Below w.heap.size w ((w.alloc (.cells #[.slice none 0 0, .bool true, .slice A' fl c'] 86)).alloc (.cells #[.slice none 0 0, .bool true, .slice A' fl c'] 86)) := ((Below.refl _ w).alloc (Nat.le_refl _) _).alloc (by simp) _
    cases ov
    · have hll3 : ll = 63 := by simpa using hend
      subst hll3
      clear hend
      go_enter Try.func44, Try.ntmps44
      go_wp2
      refine bodyPost_ret (results_row1 rfl _ _ (w.heap.size + 1) 86 _ _ rfl (Blk.at_ (by simp)) Try.underlying86 rfl (by kernel_rfl)) rfl ?_
      exact ⟨_, rfl, ⟨none, A', 0, c', by rw [HFL.out]; rfl, Nat.le_refl _, by rw [HFL.out]; exact hc', Reads.none_, (hF.below hb (.inl (Nat.le_refl _))).more hb.size⟩, hb⟩
    · clear hend
      go_enter Try.func44, Try.ntmps44
      go_wp2
      refine bodyPost_ret (results_row1 rfl _ _ (w.heap.size + 1) 86 _ _ rfl (Blk.at_ (by simp)) Try.underlying86 rfl (by kernel_rfl)) rfl ?_
      exact ⟨_, rfl, ⟨none, A', 0, c', by rw [HFL.out]; rfl, Nat.le_refl _, by rw [HFL.out]; exact hc', Reads.none_, (hF.below hb (.inl (Nat.le_refl _))).more hb.size⟩, hb⟩
  · have hov : ov = false := by cases ov <;> simp_all
    subst hov
    have hl63 : l.length < 63 := by
      have : l.length ≠ 63 := fun h => hend (.inr h)
      omega
    have e1 : opL l false a k = l ++ [(a, k)] := by unfold opL; rw [if_neg (by decide), if_neg (by omega)]
    have e2 : opV l false = false := by unfold opV; simp; omega
    have e3 : opE l false = 0 := by unfold opE; rw [e2]; rfl
    rw [e1, e2, e3]
    clear e1 e2 e3 h0 hend
    obtain ⟨ll, hll⟩ : ∃ ll, l.length = ll := ⟨_, rfl⟩
    obtain ⟨fl, hfl⟩ : ∃ fl, f.length = fl := ⟨_, rfl⟩
    rw [hll] at hl63 hc ⊢
    rw [hfl] at hc' ⊢
    have hn63 : ((ll : Int) == 63) = false := by simp; omega
    have HFL := Lib.hid hfl
    have HLL := Lib.hid hll
    clear hll hfl hl
    go_enter Try.func44, Try.ntmps44
    go_wp2_with (at_builtin; go_must (refine wpList_appRs encM etM rfl rfl rfl (Rw.nil (c := mkC) (sz := 3) _ (w.heap.size) 128) HLL.out.symm rfl ((hL.alloc _).alloc _) ?_ ?_ ?_ ?_))
    · have := HLL.out; unfold maxLen; simp; omega
    · have := HLL.out; simp; omega
    · simp; omega
    intro v1 w1 R1 g1 hv1
    have b0 : Below w.heap.size w ((w.alloc (.cells #[.slice A ll c, .bool false, .slice A' fl c'] 86)).alloc (.cells #[.slice none 0 0, .bool false, .slice none 0 0] 86)) := ((Below.refl _ w).alloc (Nat.le_refl _) _).alloc (by simp) _
    have b1 := b0.grown g1 (by simp; omega) (by simp [Value.ownBlock])
    have X3 : Blk w1 w.heap.size 86 #[.slice A ll c, .bool false, .slice A' fl c'] := ((Blk.new w 86 _).alloc _).grown g1 (by simp [Value.ownBlock])
    have X6 : Blk w1 (w.heap.size + 1) 86 #[.slice none 0 0, .bool false, .slice none 0 0] := (Blk.at_ (by simp)).grown g1 (by simp [Value.ownBlock])
    have hs1 : w.heap.size + 2 ≤ w1.heap.size := by have := g1.size; simp at this; omega
    have hv2 : ∀ j, v1.ownBlock = some j → j = w.heap.size + 2 := by
      intro j e
      rcases hv1 with h | h
      · rw [h] at e; simp [Value.ownBlock] at e
      · rw [h] at e; injection e with e; omega
    have R1 : Rw mkC 3 w1 w.heap.size 128 v1 l := R1
    clear g1 hv1 b0
    obtain ⟨x0, x1, x2, xf, xl⟩ := X3.c3
    obtain ⟨y0, y1, y2, yf, yl⟩ := X6.c3
    obtain ⟨A1, c1, hv1, hc1, hm1, hr1⟩ := R1.val
    rw [HLL.out] at hv1 hc1
    subst hv1
    go_wp2_with (at_builtin; go_must (refine wpList_appR (y := (a, k)) encM etM rfl rfl rfl (R1.alloc _) rfl (Blk.at_ (by simp)) rfl ?_ ?_ ?_ ?_))
    · have := HLL.out; unfold maxLen; omega
    · have := HLL.out; omega
    · show w.heap.size ≤ (w1.alloc _).heap.size
      rw [World.size_alloc]; omega
    intro g cap w2 R2 g2 hv3
    have X32 : Blk w2 w.heap.size 86 #[.slice A ll c, .bool false, .slice A' fl c'] := (X3.alloc _).grown g2 (fun e => by have := hv2 _ e.symm; omega)
    have X62 : Blk w2 (w.heap.size + 1) 86 #[.slice none 0 0, .bool false, .slice none 0 0] := (X6.alloc _).grown g2 (fun e => by have := hv2 _ e.symm; omega)
    have b2 := (b1.alloc (by omega) _).grown g2 (by simp; omega) (fun j e => by have := hv2 j e; omega)
    have hg : w.heap.size + 2 ≤ g := by
      rcases hv3 with e | e
      · have := hv2 g e; omega
      · omega
    have hgl := (R2.lt g rfl).2
    clear x0 x1 x2 xf xl y0 y1 y2 yf yl g2
    obtain ⟨x0, x1, x2, xf, xl⟩ := X32.c3
    obtain ⟨y0, y1, y2, yf, yl⟩ := X62.c3
    go_wp2
    have F3 : Frm (fun i => i = w.heap.size ∨ i = w.heap.size + 1) w2 ((((w2.setCell ⟨w.heap.size, 0, none⟩ (.slice (some ⟨g, 0, none⟩) (l.length + 1) cap)).setCell ⟨w.heap.size + 1, 0, none⟩ (.slice (some ⟨g, 0, none⟩) (l.length + 1) cap)).setCell ⟨w.heap.size + 1, 1, none⟩ (.bool false)).setCell ⟨w.heap.size + 1, 2, none⟩ (.slice A' fl c')) :=
      ((((Frm.refl (fun i => i = w.heap.size ∨ i = w.heap.size + 1) w2).set (.inl rfl) _).set (.inr rfl) _).set (.inr rfl) _).set (.inr rfl) _
    have hne : w.heap.size + 1 ≠ w.heap.size := by omega
    have B3 : Blk ((((w2.setCell ⟨w.heap.size, 0, none⟩ (.slice (some ⟨g, 0, none⟩) (l.length + 1) cap)).setCell ⟨w.heap.size + 1, 0, none⟩ (.slice (some ⟨g, 0, none⟩) (l.length + 1) cap)).setCell ⟨w.heap.size + 1, 1, none⟩ (.bool false)).setCell ⟨w.heap.size + 1, 2, none⟩ (.slice A' fl c')) (w.heap.size + 1) 86 #[.slice (some ⟨g, 0, none⟩) (l.length + 1) cap, .bool false, .slice A' fl c'] := by
      simpa using ((((X62.far (p := ⟨w.heap.size, 0, none⟩) hne (.slice (some ⟨g, 0, none⟩) (l.length + 1) cap)).set_ 0 (.slice (some ⟨g, 0, none⟩) (l.length + 1) cap)).set_ 1 (.bool false)).set_ 2 (.slice A' fl c'))
    have R3 := R2.frm F3 (fun i e => by have : g = i := by simpa [Value.ownBlock] using e
                                        omega)
    have b3 := b2.trans (F3.below b2.size (fun i hi e => by omega))
    generalize ((((w2.setCell ⟨w.heap.size, 0, none⟩ (.slice (some ⟨g, 0, none⟩) (l.length + 1) cap)).setCell ⟨w.heap.size + 1, 0, none⟩ (.slice (some ⟨g, 0, none⟩) (l.length + 1) cap)).setCell ⟨w.heap.size + 1, 1, none⟩ (.bool false)).setCell ⟨w.heap.size + 1, 2, none⟩ (.slice A' fl c')) = w3 at *
    refine bodyPost_ret (results_row1 rfl _ _ (w.heap.size + 1) 86 #[.slice (some ⟨g, 0, none⟩) (l.length + 1) cap, .bool false, .slice A' fl c'] _ rfl B3 Try.underlying86 rfl (by kernel_rfl)) rfl ?_
    exact ⟨_, rfl, ⟨some ⟨g, 0, none⟩, A', cap, c', by rw [HFL.out, List.length_append]; rfl, by have := (R3.at_ encM).2.1; exact this, by rw [HFL.out]; exact hc', R3.rd, (hF.below b3 (.inl (Nat.le_refl _))).more b3.size⟩, b3⟩
end Go.Proofs.Ytpdackbcnbhppaa
