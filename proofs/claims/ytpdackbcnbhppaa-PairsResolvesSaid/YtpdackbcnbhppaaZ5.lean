/- Any runes and a sequence, by props that may be: what becomes of them. -/
import Derived.Test.YtpdackbcnbhppaaZ4
namespace Go.Proofs.Ytpdackbcnbhppaa
open Go.RowKit
attribute [local go_sem] Oper.semAt_some

set_option maxRecDepth 100000 in
set_option maxHeartbeats 1000000 in
theorem PResolve_nil (w : World) (A A' : Option Addr) (n c n' c' : Nat) (s : Sq) (pv cv : Value) : Calls Try.prog 33 #[.nilIface, .slice A n c, .slice A' n' c', .agg (s.is pv cv)] w fun r w' => r = .returned (.tuple #[.agg #[.slice none 0 0, .slice none 0 0, .int .i8 0, .int .u8 0, .int .u8 0], .int .i64 1]) ∧ Below w.heap.size w w' := by
  have CM : ∀ W, Calls Try.prog 29 #[.nilIface, .slice A n c, .agg (s.is pv cv)] W fun r w' => r = .returned (.tuple #[.slice none 0 0, .int .i64 1]) ∧ Below W.heap.size W w' := fun W => PFind_nil W A n c s pv cv
  obtain ⟨pl, cs, lv, so, eo⟩ := s
  simp only [Sq.is] at CM ⊢
  obtain ⟨W1, hW1⟩ : ∃ W1, (w.alloc (.cells #[pv, cv, .int .i8 lv, .int .u8 so, .int .u8 eo] 35)).alloc (.cells #[.slice none 0 0, .slice none 0 0, .int .i8 0, .int .u8 0, .int .u8 0] 35) = W1 := ⟨_, rfl⟩
  have a1 : Aft w W1 := by rw [← hW1]; exact ((Aft.refl w).alloc _).alloc _
  have X7 : Blk W1 w.heap.size 35 #[pv, cv, .int .i8 lv, .int .u8 so, .int .u8 eo] := by rw [← hW1]; exact (Blk.new w 35 _).alloc _
  have X8 : Blk W1 (w.heap.size + 1) 35 #[.slice none 0 0, .slice none 0 0, .int .i8 0, .int .u8 0, .int .u8 0] := by rw [← hW1]; exact Blk.at_ (by simp)
  have hs1 : W1.heap.size = w.heap.size + 2 := by rw [← hW1]; simp
  obtain ⟨x0, x1, x2, x3, x4, xf, xl⟩ := X7.c5
  have HW1 := Lib.hid hW1
  have HS1 := Lib.hid hs1
  clear hW1 hs1
  go_enter Try.func33, Try.ntmps33
  go_upto_region 1 with (fail)
  rw [HW1.out]
  go_wp2_with (go_at_call 29; refine (CM _).mono ?_; rintro r1 w1 ⟨rfl, b1⟩; have X81 := X8.aft b1; obtain ⟨z0, z1, z2, z3, z4, zf, zl⟩ := X81.c5)
  have B8 := blk_put5 (.slice none 0 0) (.slice none 0 0) (.int .i8 0) (.int .u8 0) (.int .u8 0) X81
  have F8 := frm_put5 w1 (w.heap.size + 1) (.slice none 0 0) (.slice none 0 0) (.int .i8 0) (.int .u8 0) (.int .u8 0)
  generalize ((((w1.setCell ⟨w.heap.size + 1, 0, none⟩ (.slice none 0 0)).setCell ⟨w.heap.size + 1, 1, none⟩ (.slice none 0 0)).setCell ⟨w.heap.size + 1, 2, none⟩ (.int .i8 0)).setCell ⟨w.heap.size + 1, 3, none⟩ (.int .u8 0)).setCell ⟨w.heap.size + 1, 4, none⟩ (.int .u8 0) = W8 at *
  have bF : Below w.heap.size w W8 := Below.trans (a1.trans b1) (F8.below (by have := b1.size; have := HS1.out; omega) (fun i hi e => by omega))
  refine bodyPost_ret (results_row1 rfl _ _ (w.heap.size + 1) 35 _ _ rfl B8 Try.underlying35 rfl (by kernel_rfl)) rfl ?_
  exact ⟨rfl, bF⟩

theorem LentIs.frm {F : Nat → Prop} {W W' : World} {B : Nat} {x : InL} {g1 g2 g3 g4 c1 c2 c3 c4 : Nat} (h : LentIs W B x g1 g2 g3 g4 c1 c2 c3 c4) (hF : Frm F W W') (h1 : ¬ F g1) (h2 : ¬ F g2) (h3 : ¬ F g3) (h4 : ¬ F g4) : LentIs W' B x g1 g2 g3 g4 c1 c2 c3 c4 := by
  have hown : ∀ g n c j : Nat, (Value.slice (some ⟨g, 0, none⟩) n c).ownBlock = some j → g = j := fun g n c j e => by simpa [Value.ownBlock] using e
  exact ⟨h.i1.frm hF (fun j e => hown _ _ _ _ e ▸ h1), h.i2.frm hF (fun j e => hown _ _ _ _ e ▸ h2), h.i3.frm hF (fun j e => hown _ _ _ _ e ▸ h3), h.i4.frm hF (fun j e => hown _ _ _ _ e ▸ h4)⟩

set_option maxRecDepth 100000 in
set_option maxHeartbeats 4000000 in
theorem resolves_walk {w : World} {cs : Array Value} {x : InL} {pv rv fv av bv : Value} (h : InIs w w.heap.size cs x pv rv fv av bv) :
    Calls Try.prog 7 #[.agg cs] w fun r w' => r = .returned (.bool true) ∧ Below w.heap.size w w' := by
  have hcs := h.hcs
  have CB : ∀ W, Aft w W → Calls Try.prog 25 #[.agg cs] W fun r w' => r = .returned (.bool (bynd x)) ∧ Below W.heap.size W w' := fun W hW => beyond_ok (h.below hW (.inl (Nat.le_refl _)))
  have CM : ∀ W, Aft w W → Calls Try.prog 26 #[.agg #[.int .u8 x.rest, pv]] W fun r w' => r = .returned (.bool (mayP x.rest x.ch)) ∧ Below W.heap.size W w' := fun W hW => May_ok (h.props.below hW (.inl (Nat.le_refl _)))
  have CL : ∀ W, Aft w W → Calls Try.prog 28 #[.agg cs] W fun r w' => ∃ g1 g2 g3 g4 c1 c2 c3 c4, r = .returned (.agg (lentV x pv g1 g2 g3 g4 c1 c2 c3 c4)) ∧ LentIs w' W.heap.size x g1 g2 g3 g4 c1 c2 c3 c4 ∧ Below W.heap.size W w' := fun W hW => lent_ok (h.below hW (.inl (Nat.le_refl _)))
  have hbin : bynd x = false → x.s.pl.length ≤ 4000 ∧ x.ch.length ≤ 4000 := by
    intro hb
    unfold bynd at hb
    simp only [Bool.or_eq_false_iff, decide_eq_false_iff_not] at hb
    omega
  subst hcs
  obtain ⟨by_, hby⟩ : ∃ z, bynd x = z := ⟨_, rfl⟩
  obtain ⟨mp, hmp⟩ : ∃ z, mayP x.rest x.ch = z := ⟨_, rfl⟩
  rw [hby] at CB hbin
  rw [hmp] at CM
  have a0 : Aft w (w.alloc (.cells #[.int .u8 x.rest, pv, rv, fv, av, bv, .int .i8 x.s.lv, .int .u8 x.s.so, .int .u8 x.s.eo] 55)) := (Aft.refl w).alloc _
  have X0 := Blk.new w 55 #[.int .u8 x.rest, pv, rv, fv, av, bv, .int .i8 x.s.lv, .int .u8 x.s.so, .int .u8 x.s.eo]
  obtain ⟨A1, k1, epv, r1⟩ := h.p
  obtain ⟨A2, k2, erv, r2⟩ := h.r
  obtain ⟨A3, k3, efv, r3⟩ := h.f
  obtain ⟨A4, k4, eav, r4⟩ := h.a
  obtain ⟨A5, k5, ebv, r5⟩ := h.b
  clear hmp hby
  cases by_
  case true =>
    clear hbin CM CL epv erv efv eav ebv
    have x0 := X0.cell 0
    have x1 := X0.cell 1
    have x2 := X0.cell 2
    have x3 := X0.cell 3
    have x4 := X0.cell 4
    have x5 := X0.cell 5
    have x6 := X0.cell 6
    have x7 := X0.cell 7
    have x8 := X0.cell 8
    have xl := X0.lt
    go_enter Try.func7, Try.ntmps7
    go_wp2_with (first
      | (go_at_call 25; refine (CB _ a0).mono ?_; rintro r1 w1 ⟨rfl, b1⟩; have a1 := a0.trans b1)
      | (go_at_call 27; refine (lives_ok _).mono ?_; rintro r2 w2 ⟨rfl, b2⟩))
    go_ret
    exact ⟨rfl, a1.trans b2⟩
  cases mp
  case false =>
    clear hbin CL epv erv efv eav ebv
    have x0 := X0.cell 0
    have x1 := X0.cell 1
    have x2 := X0.cell 2
    have x3 := X0.cell 3
    have x4 := X0.cell 4
    have x5 := X0.cell 5
    have x6 := X0.cell 6
    have x7 := X0.cell 7
    have x8 := X0.cell 8
    have xl := X0.lt
    go_enter Try.func7, Try.ntmps7
    go_wp2_with (first
      | (go_at_call 25
         refine (CB _ a0).mono ?_
         rintro r1 w1 ⟨rfl, b1⟩
         have a1 := a0.trans b1
         have X1 := X0.aft b1
         have z0 := X1.cell 0
         have z1 := X1.cell 1
         have z2 := X1.cell 2
         have z3 := X1.cell 3
         have z4 := X1.cell 4
         have z5 := X1.cell 5
         have z6 := X1.cell 6
         have z7 := X1.cell 7
         have z8 := X1.cell 8
         have zl := X1.lt)
      | (go_at_call 26; refine (CM _ a1).mono ?_; rintro r2 w2 ⟨rfl, b2⟩; have a2 := a1.trans b2)
      | (go_at_call 27; refine (lives_ok _).mono ?_; rintro r2 w3 ⟨rfl, b3⟩))
    go_ret
    exact ⟨rfl, a2.trans b3⟩
  have hb4 := hbin rfl
  clear hbin
  have hq2 := h.l2
  have hq3 := h.l3
  have hq4 := h.l4
  have hq5 := h.l5
  subst epv erv efv eav ebv
  have hP := h.props
  have hS := h.sq
  obtain ⟨M, hM⟩ : ∃ M, resE x.rs.length x.fs.length x.s = M := ⟨_, rfl⟩
  obtain ⟨T, hT⟩ : ∃ T, resS x.ch x.rs x.fs x.s = T := ⟨_, rfl⟩
  have hTl : T.pl.length ≤ 4000 ∧ T.cs.length ≤ 140737488351232 := by
    rw [← hT]; unfold resS
    split
    · exact ⟨hb4.1, by simp only; rw [resT_length]; omega⟩
    · exact ⟨by simp [Sq.zero], by simp [Sq.zero]⟩
  have CFy : ∀ W g1 g2 g3 g4 c1 c2 c3 c4 Bl, Aft w W → LentIs W Bl x g1 g2 g3 g4 c1 c2 c3 c4 → Calls Try.prog 33 #[.iface 52 (.agg #[.int .u8 x.rest, .slice A1 x.ch.length k1]), .slice (some ⟨g1, 0, none⟩) x.rs.length c1, .slice (some ⟨g2, 0, none⟩) x.fs.length c2, .agg (x.s.is (.slice (some ⟨g3, 0, none⟩) x.s.pl.length c3) (.slice (some ⟨g4, 0, none⟩) x.s.cs.length c4))] W fun r w' => ∃ v, r = .returned (.tuple #[v, .int .i64 M]) ∧ SqOwn w' W.heap.size v T ∧ Below W.heap.size W w' := by
    intro W g1 g2 g3 g4 c1 c2 c3 c4 Bl hW hL
    have := PResolve_ok (rc := c1) (fc := c2) (hP.below hW (.inl (Nat.le_refl _))) hL.runes hL.first (hL.sq (by omega) (by omega)) (by omega) (by omega) (by omega)
    rw [hM, hT] at this
    exact this
  have CFx : ∀ W, Aft w W → Calls Try.prog 33 #[.iface 52 (.agg #[.int .u8 x.rest, .slice A1 x.ch.length k1]), .slice A2 x.rs.length k2, .slice A3 x.fs.length k3, .agg (x.s.is (.slice A4 x.s.pl.length k4) (.slice A5 x.s.cs.length k5))] W fun r w' => ∃ v, r = .returned (.tuple #[v, .int .i64 M]) ∧ SqOwn w' W.heap.size v T ∧ Below W.heap.size W w' := by
    intro W hW
    have := PResolve_ok (rc := k2) (fc := k3) (hP.below hW (.inl (Nat.le_refl _))) (r2.aft hW) (r3.aft hW) (hS.below hW (.inl (Nat.le_refl _))) (by omega) (by omega) (by omega)
    rw [hM, hT] at this
    exact this
  have CR : ∀ W, Aft w W → Calls Try.prog 34 #[.agg #[.int .u8 x.rest, .slice A1 x.ch.length k1], .slice A2 x.rs.length k2, .slice A3 x.fs.length k3, .agg (x.s.is (.slice A4 x.s.pl.length k4) (.slice A5 x.s.cs.length k5))] W fun r w' => ∃ v, r = .returned (.tuple #[v, .int .i64 M]) ∧ SqOwn w' W.heap.size v T ∧ Below W.heap.size W w' := by
    intro W hW
    have := rResolve_ok (rc := k2) (fc := k3) (hP.below hW (.inl (Nat.le_refl _))) (r2.aft hW) (r3.aft hW) (hS.below hW (.inl (Nat.le_refl _))) (by omega)
    rw [hM, hT] at this
    exact this
  have CN : ∀ W, Calls Try.prog 33 #[.nilIface, .slice A2 x.rs.length k2, .slice A3 x.fs.length k3, .agg (x.s.is (.slice A4 x.s.pl.length k4) (.slice A5 x.s.cs.length k5))] W fun r w' => r = .returned (.tuple #[.agg #[.slice none 0 0, .slice none 0 0, .int .i8 0, .int .u8 0, .int .u8 0], .int .i64 1]) ∧ Below W.heap.size W w' := fun W => PResolve_nil W A2 A3 x.rs.length k2 x.fs.length k3 x.s _ _
  have CK : ∀ W g1 g2 g3 g4 c1 c2 c3 c4 Bl, Aft w W → LentIs W Bl x g1 g2 g3 g4 c1 c2 c3 c4 → Calls Try.prog 32 #[.agg (lentV x (.slice A1 x.ch.length k1) g1 g2 g3 g4 c1 c2 c3 c4), .agg #[.int .u8 x.rest, .slice A1 x.ch.length k1, .slice A2 x.rs.length k2, .slice A3 x.fs.length k3, .slice A4 x.s.pl.length k4, .slice A5 x.s.cs.length k5, .int .i8 x.s.lv, .int .u8 x.s.so, .int .u8 x.s.eo]] W fun r w' => r = .returned (.bool true) ∧ Below W.heap.size W w' :=
    fun W g1 g2 g3 g4 c1 c2 c3 c4 Bl hW hL => kept_ok (h.below hW (.inl (Nat.le_refl _))) hL
  have CE : ∀ W B1 B2 B3 B4 A C A' C' c d c' d', RdInts W B1 .i64 A T.pl → RdInts W B2 .u8 C T.cs → RdInts W B3 .i64 A' T.pl → RdInts W B4 .u8 C' T.cs → Calls Try.prog 35 #[.agg (T.is (.slice A T.pl.length c) (.slice C T.cs.length d)), .agg (T.is (.slice A' T.pl.length c') (.slice C' T.cs.length d'))] W fun r w' => r = .returned (.bool true) ∧ Below W.heap.size W w' := by
    intro W B1 B2 B3 B4 A C A' C' c d c' d' h1 h2 h3 h4
    have := rSame_ok (c := c) (c' := c') (d := d) (d' := d') rfl rfl rfl rfl h1 h2 h3 h4 (by omega) (by omega)
    rw [sameS_refl] at this
    exact this
  simp only [Sq.is, lentV] at CFy CFx CR CN CK CL CE
  clear hM hT hP hS r1 r2 r3 r4 r5
  obtain ⟨rest, ch, rs, fs, ⟨pl, cl, lv, so, eo⟩⟩ := x
  obtain ⟨tp, tc, tl, ts, te⟩ := T
  simp only at *
  obtain ⟨n0, hn0⟩ : ∃ n, ch.length = n := ⟨_, rfl⟩
  obtain ⟨n1, hn1⟩ : ∃ n, rs.length = n := ⟨_, rfl⟩
  obtain ⟨n2, hn2⟩ : ∃ n, fs.length = n := ⟨_, rfl⟩
  obtain ⟨n3, hn3⟩ : ∃ n, pl.length = n := ⟨_, rfl⟩
  obtain ⟨n4, hn4⟩ : ∃ n, cl.length = n := ⟨_, rfl⟩
  obtain ⟨np, hnp⟩ : ∃ n, tp.length = n := ⟨_, rfl⟩
  obtain ⟨nc, hnc⟩ : ∃ n, tc.length = n := ⟨_, rfl⟩
  rw [hn0, hn1, hn2, hn3, hn4] at CB CL CK a0 X0 CFy CFx CR
  rw [hn0] at CM
  rw [hn1, hn2, hn3, hn4] at CN
  rw [hnp, hnc] at CE hTl
  rw [hn0, hn1, hn2, hn3, hn4]
  have HNP := Lib.hid hnp
  have HNC := Lib.hid hnc
  obtain ⟨hnp2, hnc2⟩ := hTl
  clear hn0 hn1 hn2 hn3 hn4 hnp hnc hq2 hq3 hq4 hq5 hb4 h
  obtain ⟨Wb, hWb⟩ : ∃ Wb, w.alloc (.cells #[.int .u8 rest, .slice A1 n0 k1, .slice A2 n1 k2, .slice A3 n2 k3, .slice A4 n3 k4, .slice A5 n4 k5, .int .i8 lv, .int .u8 so, .int .u8 eo] 55) = Wb := ⟨_, rfl⟩
  rw [hWb] at X0 a0
  obtain ⟨u, hu⟩ : ∃ u, w.heap.size = u := ⟨_, rfl⟩
  rw [hu] at X0
  have HWB := Lib.hid hWb
  clear hWb
  have x0 := X0.cell 0
  have x1 := X0.cell 1
  have x2 := X0.cell 2
  have x3 := X0.cell 3
  have x4 := X0.cell 4
  have x5 := X0.cell 5
  have x6 := X0.cell 6
  have x7 := X0.cell 7
  have x8 := X0.cell 8
  have xl := X0.lt
  go_enter Try.func7, Try.ntmps7
  go_upto_region 1 with (fail)
  rw [HWB.out]
  have HU := Lib.hid hu
  clear hu
  go_wp2_with fail
  refine (CB _ a0).mono ?_
  rintro r1 w1 ⟨rfl, b1⟩
  have a1 := a0.trans b1
  have X1 := X0.aft b1
  clear x0 x1 x2 x3 x4 x5 x6 x7 x8 xl
  have x0 := X1.cell 0
  have x1 := X1.cell 1
  have x2 := X1.cell 2
  have x3 := X1.cell 3
  have x4 := X1.cell 4
  have x5 := X1.cell 5
  have x6 := X1.cell 6
  have x7 := X1.cell 7
  have x8 := X1.cell 8
  have xl := X1.lt
  go_wp2_with fail
  refine (CM _ a1).mono ?_
  rintro r2 w2 ⟨rfl, b2⟩
  have a2 := a1.trans b2
  have X2 := X1.aft b2
  clear x0 x1 x2 x3 x4 x5 x6 x7 x8 xl
  have x0 := X2.cell 0
  have x1 := X2.cell 1
  have x2 := X2.cell 2
  have x3 := X2.cell 3
  have x4 := X2.cell 4
  have x5 := X2.cell 5
  have x6 := X2.cell 6
  have x7 := X2.cell 7
  have x8 := X2.cell 8
  have xl := X2.lt
  go_wp2_with fail
  refine (CL _ a2).mono ?_
  rintro r3 w3 ⟨g1, g2, g3, g4, c1, c2, c3, c4, rfl, L3, b3⟩
  have a3 := a2.trans b3
  clear x0 x1 x2 x3 x4 x5 x6 x7 x8 xl
  have Z3 := Blk.new w3 55 #[.int .u8 0, .slice none 0 0, .slice none 0 0, .slice none 0 0, .slice none 0 0, .slice none 0 0, .int .i8 0, .int .u8 0, .int .u8 0]
  have z0 := Z3.cell 0
  have z1 := Z3.cell 1
  have z2 := Z3.cell 2
  have z3 := Z3.cell 3
  have z4 := Z3.cell 4
  have z5 := Z3.cell 5
  have z6 := Z3.cell 6
  have z7 := Z3.cell 7
  have z8 := Z3.cell 8
  have zl := Z3.lt
  have zf := Z3.frozen
  go_upto_region 4 with (fail)
  have X3 := (X2.aft b3).alloc (.cells #[.int .u8 rest, .slice A1 n0 k1, .slice (some ⟨g1, 0, none⟩) n1 c1, .slice (some ⟨g2, 0, none⟩) n2 c2, .slice (some ⟨g3, 0, none⟩) n3 c3, .slice (some ⟨g4, 0, none⟩) n4 c4, .int .i8 lv, .int .u8 so, .int .u8 eo] 55)
  have Y3 := Blk.new w3 55 #[.int .u8 rest, .slice A1 n0 k1, .slice (some ⟨g1, 0, none⟩) n1 c1, .slice (some ⟨g2, 0, none⟩) n2 c2, .slice (some ⟨g3, 0, none⟩) n3 c3, .slice (some ⟨g4, 0, none⟩) n4 c4, .int .i8 lv, .int .u8 so, .int .u8 eo]
  replace a3 := a3.alloc (.cells #[.int .u8 rest, .slice A1 n0 k1, .slice (some ⟨g1, 0, none⟩) n1 c1, .slice (some ⟨g2, 0, none⟩) n2 c2, .slice (some ⟨g3, 0, none⟩) n3 c3, .slice (some ⟨g4, 0, none⟩) n4 c4, .int .i8 lv, .int .u8 so, .int .u8 eo] 55)
  replace L3 := L3.below ((Aft.refl w3).alloc (.cells #[.int .u8 rest, .slice A1 n0 k1, .slice (some ⟨g1, 0, none⟩) n1 c1, .slice (some ⟨g2, 0, none⟩) n2 c2, .slice (some ⟨g3, 0, none⟩) n3 c3, .slice (some ⟨g4, 0, none⟩) n4 c4, .int .i8 lv, .int .u8 so, .int .u8 eo] 55)) (Nat.le_refl _)
  obtain ⟨yb, hyb⟩ : ∃ yb, w3.heap.size = yb := ⟨_, rfl⟩
  rw [hyb] at Y3
  rw [hyb]
  clear z0 z1 z2 z3 z4 z5 z6 z7 z8 zl
  clear zf Z3 hyb b3 X1 X2 X0 CB CM CL
  obtain ⟨W3, hW3⟩ : ∃ W3, w3.alloc (.cells #[.int .u8 rest, .slice A1 n0 k1, .slice (some ⟨g1, 0, none⟩) n1 c1, .slice (some ⟨g2, 0, none⟩) n2 c2, .slice (some ⟨g3, 0, none⟩) n3 c3, .slice (some ⟨g4, 0, none⟩) n4 c4, .int .i8 lv, .int .u8 so, .int .u8 eo] 55) = W3 := ⟨_, rfl⟩
  rw [hW3] at X3 Y3 a3 L3
  rw [hW3]
  clear hW3
  have x0 := X3.cell 0
  have x1 := X3.cell 1
  have x2 := X3.cell 2
  have x3 := X3.cell 3
  have x4 := X3.cell 4
  have x5 := X3.cell 5
  have x6 := X3.cell 6
  have x7 := X3.cell 7
  have x8 := X3.cell 8
  have xl := X3.lt
  have y0 := Y3.cell 0
  have y1 := Y3.cell 1
  have y2 := Y3.cell 2
  have y3 := Y3.cell 3
  have y4 := Y3.cell 4
  have y5 := Y3.cell 5
  have y6 := Y3.cell 6
  have y7 := Y3.cell 7
  have y8 := Y3.cell 8
  have yl := Y3.lt
  have hg1 := (L3.i1.lt g1 rfl).2
  have hg2 := (L3.i2.lt g2 rfl).2
  have hg3 := (L3.i3.lt g3 rfl).2
  have hg4 := (L3.i4.lt g4 rfl).2
  have hul := X3.lt
  have hyl := Y3.lt
  have hsw3 := a3.le
  go_wp2_with fail
  refine (CFy _ _ _ _ _ _ _ _ _ _ a3 L3).mono ?_
  rintro r4 w4 ⟨v4, rfl, ⟨pv4, cv4, rfl, Ia, Ja, na⟩, b4⟩
  have a4 := a3.trans b4
  obtain ⟨aA, aac, haA, _, _, _⟩ := Ia.val
  obtain ⟨aC, acc, haC, _, _, _⟩ := Ja.val
  simp only at haA haC Ia Ja
  rw [HNP.out] at haA
  rw [HNC.out] at haC
  subst haA haC
  have Z4 := Blk.new w4 35 #[.slice none 0 0, .slice none 0 0, .int .i8 0, .int .u8 0, .int .u8 0]
  obtain ⟨q0, q1, q2, q3, q4, qf, ql⟩ := Z4.c5
  simp only [Sq.is]
  have hA4 := Ia.lt
  have hC4 := Ja.lt
  have X4 := X3.aft b4
  have Y4 := Y3.aft b4
  have L4 := L3.below b4 (Nat.le_refl _)
  clear x0 x1 x2 x3 x4 x5 x6 x7 x8 xl
  clear y0 y1 y2 y3 y4 y5 y6 y7 y8 yl
  go_upto_region 5 with (fail)
  have bx4 := Blk.new w4 35 #[.slice aA np aac, .slice aC nc acc, .int .i8 tl, .int .u8 ts, .int .u8 te]
  replace Ia := Ia.alloc (.cells #[.slice aA np aac, .slice aC nc acc, .int .i8 tl, .int .u8 ts, .int .u8 te] 35)
  replace Ja := Ja.alloc (.cells #[.slice aA np aac, .slice aC nc acc, .int .i8 tl, .int .u8 ts, .int .u8 te] 35)
  replace X4 := X4.alloc (.cells #[.slice aA np aac, .slice aC nc acc, .int .i8 tl, .int .u8 ts, .int .u8 te] 35)
  replace Y4 := Y4.alloc (.cells #[.slice aA np aac, .slice aC nc acc, .int .i8 tl, .int .u8 ts, .int .u8 te] 35)
  replace L4 := L4.below ((Aft.refl w4).alloc (.cells #[.slice aA np aac, .slice aC nc acc, .int .i8 tl, .int .u8 ts, .int .u8 te] 35)) (Nat.le_refl _)
  replace a4 := a4.alloc (.cells #[.slice aA np aac, .slice aC nc acc, .int .i8 tl, .int .u8 ts, .int .u8 te] 35)
  have hz4 := b4.size
  obtain ⟨e4, he4⟩ : ∃ e, w4.heap.size = e := ⟨_, rfl⟩
  obtain ⟨V4, hV4⟩ : ∃ V, w4.alloc (.cells #[.slice aA np aac, .slice aC nc acc, .int .i8 tl, .int .u8 ts, .int .u8 te] 35) = V := ⟨_, rfl⟩
  have hv4 : V4.heap.size = w4.heap.size + 1 := by rw [← hV4]; simp
  rw [hV4] at Ia Ja X4 Y4 L4 a4 bx4 
  rw [he4] at bx4 hz4 hv4 hA4 hC4
  rw [hV4, he4]
  have HE4 := Lib.hid he4
  have HV4 := Lib.hid hv4
  clear hV4 he4 hv4 q0 q1 q2 q3 q4 qf ql Z4 X3 Y3 L3 a3 b4
  have x0 := X4.cell 0
  have x1 := X4.cell 1
  have x2 := X4.cell 2
  have x3 := X4.cell 3
  have x4 := X4.cell 4
  have x5 := X4.cell 5
  have x6 := X4.cell 6
  have x7 := X4.cell 7
  have x8 := X4.cell 8
  have xl := X4.lt
  go_wp2_with fail
  refine (CFx _ a4).mono ?_
  rintro r5 w5 ⟨v5, rfl, ⟨pv5, cv5, rfl, Ib, Jb, nb⟩, b5⟩
  have a5 := a4.trans b5
  obtain ⟨bA, bac, hbA, _, _, _⟩ := Ib.val
  obtain ⟨bC, bcc, hbC, _, _, _⟩ := Jb.val
  simp only at hbA hbC Ib Jb
  rw [HNP.out] at hbA
  rw [HNC.out] at hbC
  subst hbA hbC
  have Z5 := Blk.new w5 35 #[.slice none 0 0, .slice none 0 0, .int .i8 0, .int .u8 0, .int .u8 0]
  obtain ⟨q0, q1, q2, q3, q4, qf, ql⟩ := Z5.c5
  simp only [Sq.is]
  have X5 := X4.aft b5
  have Y5 := Y4.aft b5
  have L5 := L4.below b5 (Nat.le_refl _)
  replace Ia := Ia.below b5 (Nat.le_refl _)
  replace Ja := Ja.below b5 (Nat.le_refl _)
  replace bx4 := bx4.aft b5
  clear x0 x1 x2 x3 x4 x5 x6 x7 x8 xl
  go_upto_region 6 with (fail)
  have bx5 := Blk.new w5 35 #[.slice bA np bac, .slice bC nc bcc, .int .i8 tl, .int .u8 ts, .int .u8 te]
  replace Ia := Ia.alloc (.cells #[.slice bA np bac, .slice bC nc bcc, .int .i8 tl, .int .u8 ts, .int .u8 te] 35)
  replace Ja := Ja.alloc (.cells #[.slice bA np bac, .slice bC nc bcc, .int .i8 tl, .int .u8 ts, .int .u8 te] 35)
  replace Ib := Ib.alloc (.cells #[.slice bA np bac, .slice bC nc bcc, .int .i8 tl, .int .u8 ts, .int .u8 te] 35)
  replace Jb := Jb.alloc (.cells #[.slice bA np bac, .slice bC nc bcc, .int .i8 tl, .int .u8 ts, .int .u8 te] 35)
  replace bx4 := bx4.alloc (.cells #[.slice bA np bac, .slice bC nc bcc, .int .i8 tl, .int .u8 ts, .int .u8 te] 35)
  replace X5 := X5.alloc (.cells #[.slice bA np bac, .slice bC nc bcc, .int .i8 tl, .int .u8 ts, .int .u8 te] 35)
  replace Y5 := Y5.alloc (.cells #[.slice bA np bac, .slice bC nc bcc, .int .i8 tl, .int .u8 ts, .int .u8 te] 35)
  replace L5 := L5.below ((Aft.refl w5).alloc (.cells #[.slice bA np bac, .slice bC nc bcc, .int .i8 tl, .int .u8 ts, .int .u8 te] 35)) (Nat.le_refl _)
  replace a5 := a5.alloc (.cells #[.slice bA np bac, .slice bC nc bcc, .int .i8 tl, .int .u8 ts, .int .u8 te] 35)
  have hz5 := b5.size
  obtain ⟨e5, he5⟩ : ∃ e, w5.heap.size = e := ⟨_, rfl⟩
  obtain ⟨V5, hV5⟩ : ∃ V, w5.alloc (.cells #[.slice bA np bac, .slice bC nc bcc, .int .i8 tl, .int .u8 ts, .int .u8 te] 35) = V := ⟨_, rfl⟩
  have hv5 : V5.heap.size = w5.heap.size + 1 := by rw [← hV5]; simp
  rw [hV5] at Ia Ja Ib Jb X5 Y5 L5 a5 bx5 bx4
  rw [he5] at bx5 hz5 hv5
  rw [hV5, he5]
  have HE5 := Lib.hid he5
  have HV5 := Lib.hid hv5
  clear hV5 he5 hv5 q0 q1 q2 q3 q4 qf ql Z5 X4 Y4 L4 a4 b5
  have x0 := X5.cell 0
  have x1 := X5.cell 1
  have x2 := X5.cell 2
  have x3 := X5.cell 3
  have x4 := X5.cell 4
  have x5 := X5.cell 5
  have x6 := X5.cell 6
  have x7 := X5.cell 7
  have x8 := X5.cell 8
  have xl := X5.lt
  go_wp2_with fail
  refine (CR _ a5).mono ?_
  rintro r6 w6 ⟨v6, rfl, ⟨pv6, cv6, rfl, Iw, Jw, nw⟩, b6⟩
  have a6 := a5.trans b6
  obtain ⟨wA, wac, hwA, _, _, _⟩ := Iw.val
  obtain ⟨wC, wcc, hwC, _, _, _⟩ := Jw.val
  simp only at hwA hwC Iw Jw
  rw [HNP.out] at hwA
  rw [HNC.out] at hwC
  subst hwA hwC
  have Z6 := Blk.new w6 35 #[.slice none 0 0, .slice none 0 0, .int .i8 0, .int .u8 0, .int .u8 0]
  obtain ⟨q0, q1, q2, q3, q4, qf, ql⟩ := Z6.c5
  simp only [Sq.is]
  have X6 := X5.aft b6
  have Y6 := Y5.aft b6
  have L6 := L5.below b6 (Nat.le_refl _)
  replace Ia := Ia.below b6 (Nat.le_refl _)
  replace Ja := Ja.below b6 (Nat.le_refl _)
  replace Ib := Ib.below b6 (Nat.le_refl _)
  replace Jb := Jb.below b6 (Nat.le_refl _)
  replace bx4 := bx4.aft b6
  replace bx5 := bx5.aft b6
  clear x0 x1 x2 x3 x4 x5 x6 x7 x8 xl
  go_upto_region 7 with (fail)
  have bx6 := Blk.new w6 35 #[.slice wA np wac, .slice wC nc wcc, .int .i8 tl, .int .u8 ts, .int .u8 te]
  replace Ia := Ia.alloc (.cells #[.slice wA np wac, .slice wC nc wcc, .int .i8 tl, .int .u8 ts, .int .u8 te] 35)
  replace Ja := Ja.alloc (.cells #[.slice wA np wac, .slice wC nc wcc, .int .i8 tl, .int .u8 ts, .int .u8 te] 35)
  replace Ib := Ib.alloc (.cells #[.slice wA np wac, .slice wC nc wcc, .int .i8 tl, .int .u8 ts, .int .u8 te] 35)
  replace Jb := Jb.alloc (.cells #[.slice wA np wac, .slice wC nc wcc, .int .i8 tl, .int .u8 ts, .int .u8 te] 35)
  replace Iw := Iw.alloc (.cells #[.slice wA np wac, .slice wC nc wcc, .int .i8 tl, .int .u8 ts, .int .u8 te] 35)
  replace Jw := Jw.alloc (.cells #[.slice wA np wac, .slice wC nc wcc, .int .i8 tl, .int .u8 ts, .int .u8 te] 35)
  replace bx4 := bx4.alloc (.cells #[.slice wA np wac, .slice wC nc wcc, .int .i8 tl, .int .u8 ts, .int .u8 te] 35)
  replace bx5 := bx5.alloc (.cells #[.slice wA np wac, .slice wC nc wcc, .int .i8 tl, .int .u8 ts, .int .u8 te] 35)
  replace X6 := X6.alloc (.cells #[.slice wA np wac, .slice wC nc wcc, .int .i8 tl, .int .u8 ts, .int .u8 te] 35)
  replace Y6 := Y6.alloc (.cells #[.slice wA np wac, .slice wC nc wcc, .int .i8 tl, .int .u8 ts, .int .u8 te] 35)
  replace L6 := L6.below ((Aft.refl w6).alloc (.cells #[.slice wA np wac, .slice wC nc wcc, .int .i8 tl, .int .u8 ts, .int .u8 te] 35)) (Nat.le_refl _)
  replace a6 := a6.alloc (.cells #[.slice wA np wac, .slice wC nc wcc, .int .i8 tl, .int .u8 ts, .int .u8 te] 35)
  have hz6 := b6.size
  obtain ⟨e6, he6⟩ : ∃ e, w6.heap.size = e := ⟨_, rfl⟩
  obtain ⟨V6, hV6⟩ : ∃ V, w6.alloc (.cells #[.slice wA np wac, .slice wC nc wcc, .int .i8 tl, .int .u8 ts, .int .u8 te] 35) = V := ⟨_, rfl⟩
  have hv6 : V6.heap.size = w6.heap.size + 1 := by rw [← hV6]; simp
  rw [hV6] at Ia Ja Ib Jb Iw Jw X6 Y6 L6 a6 bx6 bx4 bx5
  rw [he6] at bx6 hz6 hv6
  rw [hV6, he6]
  have HE6 := Lib.hid he6
  have HV6 := Lib.hid hv6
  clear hV6 he6 hv6 q0 q1 q2 q3 q4 qf ql Z6 X5 Y5 L5 a5 b6
  have x0 := X6.cell 0
  have x1 := X6.cell 1
  have x2 := X6.cell 2
  have x3 := X6.cell 3
  have x4 := X6.cell 4
  have x5 := X6.cell 5
  have x6 := X6.cell 6
  have x7 := X6.cell 7
  have x8 := X6.cell 8
  have xl := X6.lt
  have y0 := Y6.cell 0
  have y1 := Y6.cell 1
  have y2 := Y6.cell 2
  have y3 := Y6.cell 3
  have y4 := Y6.cell 4
  have y5 := Y6.cell 5
  have y6 := Y6.cell 6
  have y7 := Y6.cell 7
  have y8 := Y6.cell 8
  have yl := Y6.lt
  obtain ⟨p0, p1, p2, p3, p4, pf, pl⟩ := bx4.c5
  obtain ⟨q0, q1, q2, q3, q4, qf, ql⟩ := bx5.c5
  obtain ⟨r0, r1, r2, r3, r4, rf, rl⟩ := bx6.c5
  go_wp2_with fail
  refine (CE _ _ _ _ _ _ _ _ _ _ _ _ _ Ia.rd Ja.rd Iw.rd Jw.rd).mono ?_
  rintro r7 w7 ⟨rfl, b7⟩
  have t7 : Aft V6 w7 := b7
  clear p0 p1 p2 p3 p4 pf pl
  clear q0 q1 q2 q3 q4 qf ql
  clear r0 r1 r2 r3 r4 rf rl
  clear x0 x1 x2 x3 x4 x5 x6 x7 x8 xl
  clear y0 y1 y2 y3 y4 y5 y6 y7 y8 yl
  obtain ⟨q0, q1, q2, q3, q4, qf, ql⟩ := (bx5.aft t7).c5
  obtain ⟨r0, r1, r2, r3, r4, rf, rl⟩ := (bx6.aft t7).c5
  go_wp2_with fail
  refine (CE _ _ _ _ _ _ _ _ _ _ _ _ _ (Ib.aft t7).rd (Jb.aft t7).rd (Iw.aft t7).rd (Jw.aft t7).rd).mono ?_
  rintro r8 w8 ⟨rfl, b8⟩
  have t8 : Aft V6 w8 := t7.trans b8
  clear q0 q1 q2 q3 q4 qf ql
  clear r0 r1 r2 r3 r4 rf rl
  have X8 := X6.aft t8
  have Y8 := Y6.aft t8
  have x0 := X8.cell 0
  have x1 := X8.cell 1
  have x2 := X8.cell 2
  have x3 := X8.cell 3
  have x4 := X8.cell 4
  have x5 := X8.cell 5
  have x6 := X8.cell 6
  have x7 := X8.cell 7
  have x8 := X8.cell 8
  have xl := X8.lt
  have y0 := Y8.cell 0
  have y1 := Y8.cell 1
  have y2 := Y8.cell 2
  have y3 := Y8.cell 3
  have y4 := Y8.cell 4
  have y5 := Y8.cell 5
  have y6 := Y8.cell 6
  have y7 := Y8.cell 7
  have y8 := Y8.cell 8
  have yl := Y8.lt
  go_wp2_with fail
  refine (CK _ _ _ _ _ _ _ _ _ _ (a6.trans t8) (L6.below t8 (Nat.le_refl _))).mono ?_
  rintro r9 w9 ⟨rfl, b9⟩
  have t9 : Aft V6 w9 := t8.trans b9
  clear x0 x1 x2 x3 x4 x5 x6 x7 x8 xl
  clear y0 y1 y2 y3 y4 y5 y6 y7 y8 yl
  have X9 := X6.aft t9
  have Y9 := Y6.aft t9
  have L9 := L6.below t9 (Nat.le_refl _)
  have P9 := bx4.aft t9
  have Q9 := bx5.aft t9
  have R9 := bx6.aft t9
  have a9 := a6.trans t9
  replace Ia := Ia.aft t9
  replace Ja := Ja.aft t9
  replace Ib := Ib.aft t9
  replace Jb := Jb.aft t9
  replace Iw := Iw.aft t9
  replace Jw := Jw.aft t9
  have hV4 := HV4.out
  have hV5 := HV5.out
  have hV6 := HV6.out
  have hA5 : ∀ j, (Value.slice aA np aac).ownBlock = some j → W3.heap.size ≤ j ∧ j < e4 := hA4
  have hC5 : ∀ j, (Value.slice aC nc acc).ownBlock = some j → W3.heap.size ≤ j ∧ j < e4 := hC4
  have hB5 := Ib.lt
  have hB6 := Jb.lt
  have hW5 := Iw.lt
  have hW6 := Jw.lt
  obtain ⟨s3, hs3⟩ : ∃ s3, W3.heap.size = s3 := ⟨_, rfl⟩
  obtain ⟨s5, hs5⟩ : ∃ s5, V4.heap.size = s5 := ⟨_, rfl⟩
  obtain ⟨s6, hs6⟩ : ∃ s6, V5.heap.size = s6 := ⟨_, rfl⟩
  rw [hs3] at hA5 hC5 hz4 hul hyl hsw3 hg1 hg2 hg3 hg4 Ia Ja
  rw [hs5] at hB5 hB6 hV4 hz5
  rw [hs6] at hW5 hW6 hV5 hz6
  have HA5 := Lib.hid hA5
  have HC5 := Lib.hid hC5
  have HB5 := Lib.hid hB5
  have HB6 := Lib.hid hB6
  have HW5 := Lib.hid hW5
  have HW6 := Lib.hid hW6
  have HNA := Lib.hid na
  clear hs3 hs5 hs6 hA4 hC4 hA5 hC5 hB5 hB6 hW5 hW6 na nb nw X6 Y6 L6 X8 Y8 t7 t8 b8 t9 b9 bx4 bx5 bx6 a6 CFy CFx CR HV4 HV5 HV6 HE4 HE5 HE6
  have hs45 : e4 + 1 ≤ s5 := by omega
  have hs56 : s5 ≤ s6 := by omega
  clear hV4 hV5 hV6
  obtain ⟨p0, p1, p2, p3, p4, pf, pl⟩ := (P9).c5
  go_wp2
  go_loopg [10] np (fun gk iv wr => ∃ (i : Nat) (l : List Int), i + gk = np ∧ iv = .int .i64 i ∧ l.length = np ∧ Ints wr s3 3 .i64 (.slice aA np aac) l ∧ Frm (fun j => (Value.slice aA np aac).ownBlock = some j) w9 wr)
  case atStart => exact ⟨0, tp, by omega, rfl, HNP.out, Ia, Frm.refl _ _⟩
  case round =>
    obtain ⟨i, l, hi, rfl, hl, I1, FF⟩ := hrel
    have HI := Lib.hid hi
    have HL := Lib.hid hl
    clear hi hl p0 p1 p2 p3 p4 pf pl
    have P10 := P9.frm FF (fun e => by have := (HA5.out _ e).2; omega)
    obtain ⟨p0, p1, p2, p3, p4, pf, pl⟩ := (P10).c5
    by_cases hlt : i < np
    · have hsome : ∃ g, aA = some ⟨g, 0, none⟩ := by
        obtain ⟨g, cap, e⟩ := I1.form (by have := HL.out; omega)
        injection e with e1
        exact ⟨g, e1⟩
      obtain ⟨g, rfl⟩ := hsome
      obtain ⟨-, hcc, -, -, hgs, hgf, hgc⟩ := I1.at_
      have hgi := hgc i (by have := HL.out; omega)
      have I2 := I1.set i (-9)
      have FF2 : Frm (fun j => (Value.slice (some ⟨g, 0, none⟩) np aac).ownBlock = some j) w9 (wr.setCell ⟨g, i, none⟩ (.int .i64 (-9))) := Frm.set (F := fun j => (Value.slice (some ⟨g, 0, none⟩) np aac).ownBlock = some j) (b := g) (j := i) FF rfl _
      have hll : (l.set i (-9)).length = np := by rw [List.length_set]; exact HL.out
      have HLL := Lib.hid hll
      clear hll hgc hcc
      go_wp2
      go_roundg (np - (i + 1))
      case rel => exact ⟨i + 1, _, by have := HI.out; omega, by go_num, HLL.out, I2, FF2⟩
      case measure => have := HI.out; omega
    · have hin : i = np := by have := HI.out; omega
      subst hin
      have J1 := Ja.frm FF (fun j e h => HNA.out j h e)
      have HFF := Lib.hid FF
      clear Ja I1 Ia FF
      obtain ⟨Wm, rfl⟩ : ∃ Wm, Wm = wr := ⟨_, rfl⟩
      go_wp2
      clear p0 p1 p2 p3 p4 pf pl
      go_loopg [11] nc (fun gk iv wr => ∃ (k : Nat) (l : List Int), k + gk = nc ∧ iv = .int .i64 k ∧ l.length = nc ∧ Ints wr s3 28 .u8 (.slice aC nc acc) l ∧ Frm (fun j => (Value.slice aC nc acc).ownBlock = some j) Wm wr)
      case atStart => exact ⟨0, tc, by omega, rfl, HNC.out, J1, Frm.refl _ _⟩
      case round =>
        obtain ⟨k, l, hk, rfl, hl, I1, FG⟩ := hrel
        have HK := Lib.hid hk
        have HL := Lib.hid hl
        clear hk hl
        have P11 := P10.frm FG (fun e => by have := (HC5.out _ e).2; omega)
        obtain ⟨p0, p1, p2, p3, p4, pf, pl⟩ := (P11).c5
        by_cases hlt : k < nc
        · have hsome : ∃ g, aC = some ⟨g, 0, none⟩ := by
            obtain ⟨g, cap, e⟩ := I1.form (by have := HL.out; omega)
            injection e with e1
            exact ⟨g, e1⟩
          obtain ⟨g, rfl⟩ := hsome
          obtain ⟨-, hcc, -, -, hgs, hgf, hgc⟩ := I1.at_
          have hgi := hgc k (by have := HL.out; omega)
          have I2 := I1.set k 99
          have FF2 : Frm (fun j => (Value.slice (some ⟨g, 0, none⟩) nc acc).ownBlock = some j) Wm (wr.setCell ⟨g, k, none⟩ (.int .u8 99)) := Frm.set (F := fun j => (Value.slice (some ⟨g, 0, none⟩) nc acc).ownBlock = some j) (b := g) (j := k) FG rfl _
          have hll : (l.set k 99).length = nc := by rw [List.length_set]; exact HL.out
          have HLL := Lib.hid hll
          clear hll hgc hcc
          go_wp2
          go_roundg (nc - (k + 1))
          case rel => exact ⟨k + 1, _, by have := HK.out; omega, by go_num, HLL.out, I2, FF2⟩
          case measure => have := HK.out; omega
        · have hkn : k = nc := by have := HK.out; omega
          subst hkn
          have FT : Frm (fun j => s3 ≤ j ∧ j < e4) w9 wr := (HFF.out.mono (F' := fun j => s3 ≤ j ∧ j < e4) (fun j _ e => HA5.out j e)).trans FG (fun j _ e => HC5.out j e)
          have X10 := X9.frm FT (by omega)
          have Y10 := Y9.frm FT (by omega)
          have Q10 := Q9.frm FT (by omega)
          have R10 := R9.frm FT (by omega)
          have L10 := L9.frm FT (by omega) (by omega) (by omega) (by omega)
          have Ib10 := Ib.frm FT (fun j e h => by have := (HB5.out j e).1; omega)
          have Jb10 := Jb.frm FT (fun j e h => by have := (HB6.out j e).1; omega)
          have Iw10 := Iw.frm FT (fun j e h => by have := (HW5.out j e).1; omega)
          have Jw10 := Jw.frm FT (fun j e h => by have := (HW6.out j e).1; omega)
          have a10 : Aft w wr := Below.trans a9 (FT.below a9.le (fun k hk e => by omega))
          clear I1 FG FT HFF P11 P10 P9 Q9 R9 X9 Y9 L9 Ib Jb Iw Jw a9 J1
          have x0 := X10.cell 0
          have x1 := X10.cell 1
          have x2 := X10.cell 2
          have x3 := X10.cell 3
          have x4 := X10.cell 4
          have x5 := X10.cell 5
          have x6 := X10.cell 6
          have x7 := X10.cell 7
          have x8 := X10.cell 8
          have xl := X10.lt
          obtain ⟨Wn, rfl⟩ : ∃ Wn, Wn = wr := ⟨_, rfl⟩
          go_wp2_with fail
          refine (CN _).mono ?_
          rintro r11 w11 ⟨rfl, b11⟩
          have a11 := a10.trans b11
          clear p0 p1 p2 p3 p4 pf pl
          have Z11 := Blk.new w11 35 #[.slice none 0 0, .slice none 0 0, .int .i8 0, .int .u8 0, .int .u8 0]
          obtain ⟨v0, v1, v2, v3, v4, vf, vl⟩ := Z11.c5
          clear x0 x1 x2 x3 x4 x5 x6 x7 x8 xl
          have t11 : Aft Wn (w11.alloc (.cells #[.slice none 0 0, .slice none 0 0, .int .i8 0, .int .u8 0, .int .u8 0] 35)) := Aft.alloc b11 _
          obtain ⟨q0, q1, q2, q3, q4, qf, ql⟩ := (Q10.aft t11).c5
          obtain ⟨r0, r1, r2, r3, r4, rf, rl⟩ := (R10.aft t11).c5
          go_wp2_with fail
          refine (CE _ _ _ _ _ _ _ _ _ _ _ _ _ (Ib10.aft t11).rd (Jb10.aft t11).rd (Iw10.aft t11).rd (Jw10.aft t11).rd).mono ?_
          rintro r12 w12 ⟨rfl, b12⟩
          have t12 := t11.trans b12
          clear q0 q1 q2 q3 q4 qf ql
          clear r0 r1 r2 r3 r4 rf rl
          have X12 := X10.aft t12
          have Y12 := Y10.aft t12
          have x0 := X12.cell 0
          have x1 := X12.cell 1
          have x2 := X12.cell 2
          have x3 := X12.cell 3
          have x4 := X12.cell 4
          have x5 := X12.cell 5
          have x6 := X12.cell 6
          have x7 := X12.cell 7
          have x8 := X12.cell 8
          have xl := X12.lt
          have y0 := Y12.cell 0
          have y1 := Y12.cell 1
          have y2 := Y12.cell 2
          have y3 := Y12.cell 3
          have y4 := Y12.cell 4
          have y5 := Y12.cell 5
          have y6 := Y12.cell 6
          have y7 := Y12.cell 7
          have y8 := Y12.cell 8
          have yl := Y12.lt
          go_wp2_with fail
          refine (CK _ _ _ _ _ _ _ _ _ _ (a10.trans t12) (L10.below t12 (Nat.le_refl _))).mono ?_
          rintro r13 w13 ⟨rfl, b13⟩
          have a13 := (a10.trans t12).trans b13
          clear x0 x1 x2 x3 x4 x5 x6 x7 x8 xl
          clear y0 y1 y2 y3 y4 y5 y6 y7 y8 yl
          clear v0 v1 v2 v3 v4 vf vl
          go_wp2_with fail
          refine (lives_ok _).mono ?_
          rintro r14 w14 ⟨rfl, b14⟩
          go_wp2
          go_ret
          exact ⟨rfl, a13.trans b14⟩
end Go.Proofs.Ytpdackbcnbhppaa
