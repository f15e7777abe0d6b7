/- The reference's pile: Close. -/
import Derived.Test.YtpdackbcnbhppaaR6
import Derived.BigRegion
namespace Go.Proofs.Ytpdackbcnbhppaa
open Go.RowKit
attribute [local go_sem] Oper.semAt_some

theorem results_ccs {fn : Func} {p q r : Tmp} (h : fn.results = #[.cell p 86, .cell q 65, .tmp r]) (tmps : Array Value) (w : World) (g k : Nat) (cs : Array Value) (x y : Int) (hp : tmps.getD p undef = .pointer (some ⟨g, 0, none⟩)) (hq : tmps.getD q undef = .pointer (some ⟨k, 0, none⟩))
    (hcs : cs.size = 3) (hg : Blk w g 86 cs) (hk : Blk w k 65 #[.int .i64 x, .int .i64 y]) : (results fn tmps).run Try.prog w = .ok (.tuple #[.agg cs, .agg #[.int .i64 x, .int .i64 y], tmps.getD r undef]) w := by
  have hp' : tmps[p]?.getD undef = .pointer (some ⟨g, 0, none⟩) := by simpa using hp
  have hq' : tmps[q]?.getD undef = .pointer (some ⟨k, 0, none⟩) := by simpa using hq
  have h1 := run_loadVar_row w g 86 86 cs (0, 0) _ hg Try.underlying86 rfl (by rw [hcs]; kernel_rfl)
  have h2 := run_loadVar_row w k 65 65 #[.int .i64 x, .int .i64 y] (0, 0) _ hk Try.underlying65 rfl (by kernel_rfl)
  simp [results, h, hp', hq', asAddr, h1, h2]

set_option maxRecDepth 100000 in
set_option maxHeartbeats 2000000 in
theorem rClose_ok {w : World} {pv : Value} {l f : List (Int × Int)} {ov : Bool} (a k : Int) (h : RPil w pv l f ov) (hl : l.length ≤ 1048576) (hf : f.length ≤ 1048576) :
    Calls Try.prog 42 #[pv, .int .i64 a, .int .i32 k] w fun r w' => ∃ pv', r = .returned (.tuple #[pv', .agg #[.int .i64 (clB l a k).1, .int .i64 (clB l a k).2], .bool (clI l k)]) ∧ RPil w' pv' (clL l k) (clF l f a k) ov ∧ Below w.heap.size w w' := by
  obtain ⟨A, A', c, c', rfl, hc, hc', hL, hF⟩ := h
  obtain ⟨ll, hll⟩ : ∃ ll, l.length = ll := ⟨_, rfl⟩
  obtain ⟨fl, hfl⟩ : ∃ fl, f.length = fl := ⟨_, rfl⟩
  rw [hll] at hc hl ⊢
  rw [hfl] at hc' hf ⊢
  have HFL := Lib.hid hfl
  have HLL := Lib.hid hll
  clear hll hfl
  obtain ⟨W1, hW1⟩ : ∃ W1, (((w.alloc (.cells #[.slice A ll c, .bool ov, .slice A' fl c'] 86)).alloc (.cells #[.slice none 0 0, .bool false, .slice none 0 0] 86)).alloc (.cells #[.int .i64 0, .int .i64 0] 65)) = W1 := ⟨_, rfl⟩
  have hsz : W1.heap.size = w.heap.size + 1 + 1 + 1 := by rw [← hW1]; simp
  have b1 : Below w.heap.size w W1 := by rw [← hW1]; exact (((Below.refl _ w).alloc (Nat.le_refl _) _).alloc (by simp) _).alloc (by simp; omega) _
  have X3 : Blk W1 w.heap.size 86 #[.slice A ll c, .bool ov, .slice A' fl c'] := by rw [← hW1]; exact ((Blk.new w 86 _).alloc _).alloc _
  have X6 : Blk W1 (w.heap.size + 1) 86 #[.slice none 0 0, .bool false, .slice none 0 0] := by rw [← hW1]; exact (Blk.at_ (by simp)).alloc _
  have X7 : Blk W1 (w.heap.size + 1 + 1) 65 #[.int .i64 0, .int .i64 0] := by rw [← hW1]; exact Blk.at_ (by simp)
  have hL1 := hL.below b1 (.inl (Nat.le_refl _))
  have hF1 := hF.below b1 (.inl (Nat.le_refl _))
  have HW1 := Lib.hid hW1
  clear hW1
  obtain ⟨x0, x1, x2, xf, xl⟩ := X3.c3
  go_enter Try.func42, Try.ntmps42
  go_upto_region 1 with (fail)
  rw [HW1.out]
  go_wp2
  go_loopg [9] ll (fun gk iv wr => ∃ j : Nat, gk = j ∧ iv = .int .i64 ((j : Int) - 1) ∧ j ≤ ll ∧ scanK l k ll = scanK l k j ∧ wr = W1)
  case atStart => exact ⟨ll, rfl, by go_num, Nat.le_refl _, rfl, rfl⟩
  case round =>
    obtain ⟨j, hgk, rfl, hj, hsc, rfl⟩ := hrel
    have HGK := Lib.hid hgk
    clear hgk
    rcases j with _ | j
    · have hs : scanK l k l.length = none := by rw [HLL.out]; exact hsc
      have e1 : clL l k = l := by unfold clL; rw [hs]
      have e2 : clF l f a k = f := by unfold clF; rw [hs]
      have e3 : clB l a k = (0, 0) := by unfold clB; rw [hs]
      have e4 : clI l k = false := by unfold clI; rw [hs]; rfl
      clear hs hsc
      have E1 := Lib.hid e1
      have E2 := Lib.hid e2
      have E3 := Lib.hid e3
      have E4 := Lib.hid e4
      clear e1 e2 e3 e4
      obtain ⟨y0, y1, y2, yf, yl⟩ := X6.c3
      obtain ⟨z0, z1, zf, zl⟩ := X7.c2
      go_wp2
      rw [E1.out, E2.out, E3.out, E4.out]
      have B6 := (blk_put3 (.slice A ll c) (.bool ov) (.slice A' fl c') X6)
      have F6 := frm_put3 wr (w.heap.size + 1) (.slice A ll c) (.bool ov) (.slice A' fl c')
      have B7 := X7.frm F6 (by omega)
      generalize ((wr.setCell ⟨w.heap.size + 1, 0, none⟩ (.slice A ll c)).setCell ⟨w.heap.size + 1, 1, none⟩ (.bool ov)).setCell ⟨w.heap.size + 1, 2, none⟩ (.slice A' fl c') = WA at *
      have B72 := blk_put2 (.int .i64 0) (.int .i64 0) B7
      have F7 := frm_put2 WA (w.heap.size + 1 + 1) (.int .i64 0) (.int .i64 0)
      have B62 := B6.frm F7 (by omega)
      have bF := (b1.trans (F6.below b1.size (fun i hi e => by omega))).trans (F7.below (by have := F6.size; have := b1.size; omega) (fun i hi e => by omega))
      generalize (WA.setCell ⟨w.heap.size + 1 + 1, 0, none⟩ (.int .i64 0)).setCell ⟨w.heap.size + 1 + 1, 1, none⟩ (.int .i64 0) = WB at *
      refine bodyPost_ret (results_ccs rfl _ _ (w.heap.size + 1) (w.heap.size + 1 + 1) _ _ _ rfl rfl rfl B62 B72) rfl ?_
      exact ⟨_, rfl, ⟨A, A', c, c', by rw [HLL.out, HFL.out], by rw [HLL.out]; exact hc, by rw [HFL.out]; exact hc', (hL.below bF (.inl (Nat.le_refl _))).more bF.size, (hF.below bF (.inl (Nat.le_refl _))).more bF.size⟩, bF⟩
    · have e1 : (((j + 1 : Nat) : Int) - 1) = (j : Int) := by omega
      rw [e1]
      obtain ⟨x, hx⟩ : ∃ x, l.getD j (0, 0) = x := ⟨_, rfl⟩
      have hx2 : l[j]? = some x := by rw [← hx, List.getD_eq_getElem?_getD, List.getElem?_eq_getElem (by have := HLL.out; omega)]; rfl
      have hsj : scanK l k (j + 1) = if x.2 = k then some j else scanK l k j := by rw [← hx]; rfl
      rw [hsj] at hsc
      have HSC := Lib.hid hsc
      obtain ⟨ab, off, rfl, ha1, ha2, hcc⟩ := hL1.at_ encM hx2 (by omega)
      have c0 := hcc 0 _ rfl
      have c2 := hcc 2 _ rfl
      rw [Nat.add_zero] at c0
      rw [← Nat.add_assoc] at c2
      have HX := Lib.hid hx
      clear hsc hsj hx hx2 hcc e1
      by_cases hk : x.2 = k
      · have hkk : (x.2 == k) = true := by simpa using hk
        have hjl : j < ll := by omega
        have hjc : j ≤ c := by omega
        go_wp2_with (at_builtin; go_must (refine wpList_appRs encB etB rfl rfl rfl (Rw.nil (c := brC) (sz := 2) _ (w.heap.size + 1 + 1 + 1) 65) HFL.out.symm rfl (Reads.alloc (Reads.setCell hF1 (p := ⟨w.heap.size, 0, none⟩) (Nat.le_refl _) _) _) ?_ ?_ ?_ ?_))
        · have := HFL.out; unfold maxLen; simp; omega
        · have := HFL.out; simp; omega
        · simp; omega
        intro v1 w1 R1 g1 hv1
        have b0 : Below w.heap.size w ((wr.setCell ⟨w.heap.size, 0, none⟩ (.slice (some ⟨ab, off, none⟩) j c)).alloc (.cells #[.int .i64 x.1, .int .i64 a] 65)) := (b1.setCell (p := ⟨w.heap.size, 0, none⟩) (by simp) _).alloc (by simp; omega) _
        have b2 := b0.grown g1 (by simp; omega) (by simp [Value.ownBlock])
        have Y3 : Blk w1 w.heap.size 86 #[.slice (some ⟨ab, off, none⟩) j c, .bool ov, .slice A' fl c'] := by
          have := ((X3.set_ 0 (.slice (some ⟨ab, off, none⟩) j c)).alloc (.cells #[.int .i64 x.1, .int .i64 a] 65)).grown g1 (by simp [Value.ownBlock])
          simpa using this
        have Y6 : Blk w1 (w.heap.size + 1) 86 #[.slice none 0 0, .bool false, .slice none 0 0] := ((X6.far (p := ⟨w.heap.size, 0, none⟩) (by simp) _).alloc _).grown g1 (by simp [Value.ownBlock])
        have Y7 : Blk w1 (w.heap.size + 1 + 1) 65 #[.int .i64 0, .int .i64 0] := ((X7.far (p := ⟨w.heap.size, 0, none⟩) (by simp; omega) _).alloc _).grown g1 (by simp [Value.ownBlock])
        have Y8 : Blk w1 (w.heap.size + 1 + 1 + 1) 65 #[.int .i64 x.1, .int .i64 a] := (Blk.at_ (by simp; omega)).grown g1 (by simp [Value.ownBlock])
        have hs1 : w.heap.size + 1 + 1 + 1 + 1 ≤ w1.heap.size := by have := g1.size; simp at this; omega
        have hv2 : ∀ i, v1.ownBlock = some i → i = w.heap.size + 1 + 1 + 1 + 1 := by
          intro i e
          rcases hv1 with h | h
          · rw [h] at e; simp [Value.ownBlock] at e
          · rw [h] at e; injection e with e; omega
        have R1 : Rw brC 2 w1 (w.heap.size + 1 + 1 + 1) 65 v1 f := R1
        clear g1 hv1 b0 x0 x1 x2 xf xl
        obtain ⟨x0, x1, x2, xf, xl⟩ := Y3.c3
        obtain ⟨p0, p1, pf, pl⟩ := Y8.c2
        obtain ⟨A1, c1, hv1, hc1, hm1, hr1⟩ := R1.val
        rw [HFL.out] at hv1 hc1
        subst hv1
        go_wp2_with (at_builtin; go_must (refine wpList_appR (y := (x.1, a)) encB etB rfl rfl rfl (R1.alloc _) rfl (Blk.at_ (by simp)) rfl ?_ ?_ ?_ ?_))
        · have := HFL.out; unfold maxLen; omega
        · have := HFL.out; omega
        · show w.heap.size + 1 + 1 + 1 ≤ (w1.alloc _).heap.size
          rw [World.size_alloc]; omega
        intro g cap w2 R2 g2 hv3
        have Z3 := (Y3.alloc (.cells #[.int .i64 x.1, .int .i64 a] 65)).grown g2 (fun e => by have := hv2 _ e.symm; omega)
        have Z6 := (Y6.alloc (.cells #[.int .i64 x.1, .int .i64 a] 65)).grown g2 (fun e => by have := hv2 _ e.symm; omega)
        have Z7 := (Y7.alloc (.cells #[.int .i64 x.1, .int .i64 a] 65)).grown g2 (fun e => by have := hv2 _ e.symm; omega)
        have Z8 := (Y8.alloc (.cells #[.int .i64 x.1, .int .i64 a] 65)).grown g2 (fun e => by have := hv2 _ e.symm; omega)
        have b3 := (b2.alloc (by omega) (.cells #[.int .i64 x.1, .int .i64 a] 65)).grown g2 (by simp; omega) (fun j e => by have := hv2 j e; omega)
        have hg : w.heap.size + 1 + 1 + 1 + 1 ≤ g := by
          rcases hv3 with e | e
          · have := hv2 g e; omega
          · omega
        clear x0 x1 x2 xf xl p0 p1 pf pl g2
        obtain ⟨x0, x1, x2, xf, xl⟩ := Z3.c3
        obtain ⟨y0, y1, y2, yf, yl⟩ := Z6.c3
        obtain ⟨z0, z1, zf, zl⟩ := Z7.c2
        obtain ⟨p0, p1, pf, pl⟩ := Z8.c2
        go_wp2
        go_region
        all_goals
          go_wp2
          have hs : scanK l k l.length = some j := by rw [HLL.out]; have := HSC.out; rw [if_pos hk] at this; exact this
          have e1 : clL l k = l.take j := by unfold clL; rw [hs]
          have e2 : clF l f a k = f ++ [(x.1, a)] := by unfold clF; rw [hs, ← HX.out]
          have e3 : clB l a k = (x.1, a) := by unfold clB; rw [hs, ← HX.out]
          have e4 : clI l k = true := by unfold clI; rw [hs]; rfl
          rw [e1, e2, e3, e4]
          have F5 : Frm (fun i => i = w.heap.size) w2 (w2.setCell ⟨w.heap.size, 2, none⟩ (.slice (some ⟨g, 0, none⟩) (f.length + 1) cap)) := (Frm.refl (fun i => i = w.heap.size) w2).set rfl _
          have V6 := Z6.frm F5 (by omega)
          have V7 := Z7.frm F5 (by omega)
          have R5 := R2.frm F5 (fun i e => by have : g = i := by simpa [Value.ownBlock] using e
                                              omega)
          have b5 := b3.trans (F5.below b3.size (fun i hi e => by omega))
          generalize w2.setCell ⟨w.heap.size, 2, none⟩ (.slice (some ⟨g, 0, none⟩) (f.length + 1) cap) = WA at *
          have B6 := (blk_put3 (.slice (some ⟨ab, off, none⟩) j c) (.bool ov) (.slice (some ⟨g, 0, none⟩) (f.length + 1) cap) V6)
          have F6 := frm_put3 WA (w.heap.size + 1) (.slice (some ⟨ab, off, none⟩) j c) (.bool ov) (.slice (some ⟨g, 0, none⟩) (f.length + 1) cap)
          have B7 := V7.frm F6 (by omega)
          have R6 := R5.frm F6 (fun i e => by have : g = i := by simpa [Value.ownBlock] using e
                                              omega)
          generalize ((WA.setCell ⟨w.heap.size + 1, 0, none⟩ (.slice (some ⟨ab, off, none⟩) j c)).setCell ⟨w.heap.size + 1, 1, none⟩ (.bool ov)).setCell ⟨w.heap.size + 1, 2, none⟩ (.slice (some ⟨g, 0, none⟩) (f.length + 1) cap) = WB at *
          have B72 := blk_put2 (.int .i64 x.1) (.int .i64 a) B7
          have F7 := frm_put2 WB (w.heap.size + 1 + 1) (.int .i64 x.1) (.int .i64 a)
          have B62 := B6.frm F7 (by omega)
          have R7 := R6.frm F7 (fun i e => by have : g = i := by simpa [Value.ownBlock] using e
                                              omega)
          have bF := (b5.trans (F6.below b5.size (fun i hi e => by omega))).trans (F7.below (by have := F6.size; have := b5.size; omega) (fun i hi e => by omega))
          generalize (WB.setCell ⟨w.heap.size + 1 + 1, 0, none⟩ (.int .i64 x.1)).setCell ⟨w.heap.size + 1 + 1, 1, none⟩ (.int .i64 a) = WC at *
          refine bodyPost_ret (results_ccs rfl _ _ (w.heap.size + 1) (w.heap.size + 1 + 1) _ _ _ rfl rfl rfl B62.drew B72.drew) rfl ?_
          have hLF := (hL.below bF (.inl (Nat.le_refl _))).more bF.size
          have hLt : RdR mkC 3 WC WC.heap.size (some ⟨ab, off, none⟩) (l.take j) := by
            have hjl2 : j ≤ l.length := by have := HLL.out; omega
            refine ⟨fm_len encM _, fun h0 => ?_⟩
            obtain ⟨b', off', e, q1, q2, q3⟩ := hLF.2 (by rw [List.length_take] at h0; omega)
            refine ⟨b', off', e, q1, q2, fun i v hi => q3 i v ?_⟩
            rw [fm_take encM, List.getElem?_take] at hi
            split at hi
            · exact hi
            · cases hi
          exact ⟨_, rfl, ⟨some ⟨ab, off, none⟩, some ⟨g, 0, none⟩, c, cap, by rw [List.length_take, HLL.out, Nat.min_eq_left (by omega), List.length_append]; rfl, by rw [List.length_take]; omega, (R7.at_ encB).2.1, hLt.drew, R7.rd.drew⟩, bF.drew⟩
      · have hkk : (x.2 == k) = false := by simpa using hk
        go_wp2
        go_roundg j
        case rel => exact ⟨j, rfl, by go_num, by omega, by have := HSC.out; rw [if_neg hk] at this; exact this, rfl⟩
        case measure => have := HGK.out; omega
end Go.Proofs.Ytpdackbcnbhppaa
