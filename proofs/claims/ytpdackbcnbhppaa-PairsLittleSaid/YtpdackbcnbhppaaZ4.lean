/- Any runes and a sequence, by props that may be: what is found. -/
import Derived.Test.YtpdackbcnbhppaaY10
import Derived.Test.YtpdackbcnbhppaaY8
import Derived.Test.YtpdackbcnbhppaaY5
import Derived.Test.YtpdackbcnbhppaaZ3
namespace Go.Proofs.Ytpdackbcnbhppaa
open Go.RowKit
attribute [local go_sem] Oper.semAt_some

set_option maxRecDepth 100000 in
set_option maxHeartbeats 1000000 in
theorem PFind_nil (w : World) (A : Option Addr) (n c : Nat) (s : Sq) (pv cv : Value) : Calls Try.prog 29 #[.nilIface, .slice A n c, .agg (s.is pv cv)] w fun r w' => r = .returned (.tuple #[.slice none 0 0, .int .i64 1]) ∧ Below w.heap.size w w' := by
  have CM : ∀ W, Calls Try.prog 63 #[.nilIface, .int .i64 n, .agg (s.is pv cv)] W fun r w' => r = .returned (.int .i64 1) ∧ Below W.heap.size W w' := fun W => may_nil W n s pv cv
  obtain ⟨pl, cs, lv, so, eo⟩ := s
  simp only [Sq.is] at CM ⊢
  have X := Blk.new w 35 #[pv, cv, .int .i8 lv, .int .u8 so, .int .u8 eo]
  obtain ⟨x0, x1, x2, x3, x4, xf, xl⟩ := X.c5
  go_enter Try.func29, Try.ntmps29
  go_wp2
  go_step3
  go_wp2_with (go_at_call 63; refine (CM _).mono ?_; rintro r1 w1 ⟨rfl, b1⟩)
  rw [Exit.noGoto_ret]
  go_ret2
  exact ⟨rfl, ((Aft.refl w).alloc _).trans b1⟩

theorem LentIs.runes {W : World} {B : Nat} {x : InL} {g1 g2 g3 g4 c1 c2 c3 c4 : Nat} (h : LentIs W B x g1 g2 g3 g4 c1 c2 c3 c4) : RdInts W W.heap.size .i32 (some ⟨g1, 0, none⟩) x.rs := (RdInts.take h.i1.rd x.rs.length |> fun h => by rwa [List.take_left] at h)
theorem LentIs.first {W : World} {B : Nat} {x : InL} {g1 g2 g3 g4 c1 c2 c3 c4 : Nat} (h : LentIs W B x g1 g2 g3 g4 c1 c2 c3 c4) : RdInts W W.heap.size .u8 (some ⟨g2, 0, none⟩) x.fs := (RdInts.take h.i2.rd x.fs.length |> fun h => by rwa [List.take_left] at h)
theorem LentIs.sq {W : World} {B : Nat} {x : InL} {g1 g2 g3 g4 c1 c2 c3 c4 : Nat} (h : LentIs W B x g1 g2 g3 g4 c1 c2 c3 c4) (h4 : x.s.pl.length ≤ 4611686018427387904) (h5 : x.s.cs.length ≤ 4611686018427387904) : SqIs W W.heap.size (.agg (x.s.is (.slice (some ⟨g3, 0, none⟩) x.s.pl.length c3) (.slice (some ⟨g4, 0, none⟩) x.s.cs.length c4))) x.s :=
  ⟨_, _, c3, c4, rfl, (RdInts.take h.i3.rd x.s.pl.length |> fun h => by rwa [List.take_left] at h), (RdInts.take h.i4.rd x.s.cs.length |> fun h => by rwa [List.take_left] at h), h4, h5⟩
theorem BrsAt.below {W W' : World} {B C : Nat} {v : Value} {D : List (Int × Int)} (h : BrsAt W B v D) (hb : Below C W W') (hC : W.heap.size ≤ C) : BrsAt W' B v D := by
  rcases h with h | ⟨g, cap, h1, h2, h3, h4⟩
  · exact .inl h
  · exact .inr ⟨g, cap, h1, h2.below hb (Nat.lt_of_lt_of_le h2.lt hC), h3, h4⟩

theorem BrsAt.form {W : World} {B : Nat} {v : Value} {D : List (Int × Int)} (h : BrsAt W B v D) : ∃ A c, v = .slice A D.length c ∧ RdR brC 2 W W.heap.size A D ∧ ∀ b off, A = some ⟨b, off, none⟩ → off = 0 ∧ B ≤ b ∧ b < W.heap.size ∧ Prs W b D ∧ D.length ≤ c := by
  rcases h with ⟨rfl, rfl⟩ | ⟨g, cap, rfl, h2, h3, h4⟩
  · exact ⟨none, 0, rfl, Reads.none_, fun b off e => by cases e⟩
  · exact ⟨some ⟨g, 0, none⟩, cap, rfl, h2.rd, fun b off e => by cases e; exact ⟨rfl, h3, h2.lt, h2, h4⟩⟩

set_option maxRecDepth 100000 in
set_option maxHeartbeats 4000000 in
theorem finds_walk {w : World} {cs : Array Value} {x : InL} {pv rv fv av bv : Value} (h : InIs w w.heap.size cs x pv rv fv av bv) :
    Calls Try.prog 6 #[.agg cs] w fun r w' => r = .returned (.bool true) ∧ Below w.heap.size w w' := by
  have hcs := h.hcs
  have CB : ∀ W, Aft w W → Calls Try.prog 25 #[.agg cs] W fun r w' => r = .returned (.bool (bynd x)) ∧ Below W.heap.size W w' := fun W hW => beyond_ok (h.below hW (.inl (Nat.le_refl _)))
  have CM : ∀ W, Aft w W → Calls Try.prog 26 #[.agg #[.int .u8 x.rest, pv]] W fun r w' => r = .returned (.bool (mayP x.rest x.ch)) ∧ Below W.heap.size W w' := fun W hW => May_ok (h.props.below hW (.inl (Nat.le_refl _)))
  have CL : ∀ W, Aft w W → Calls Try.prog 28 #[.agg cs] W fun r w' => ∃ g1 g2 g3 g4 c1 c2 c3 c4, r = .returned (.agg (lentV x pv g1 g2 g3 g4 c1 c2 c3 c4)) ∧ LentIs w' W.heap.size x g1 g2 g3 g4 c1 c2 c3 c4 ∧ Below W.heap.size W w' := fun W hW => lent_ok (h.below hW (.inl (Nat.le_refl _)))
  have hbin : bynd x = false → x.s.pl.length ≤ 4000 ∧ x.ch.length ≤ 4000 := by
    intro hb
    unfold bynd at hb
    simp only [Bool.or_eq_false_iff, decide_eq_false_iff_not] at hb
    omega
  subst hcs
  obtain ⟨by_, hby⟩ : ∃ z, bynd x = z := ⟨_, rfl⟩
  obtain ⟨mp, hmp⟩ : ∃ z, mayP x.rest x.ch = z := ⟨_, rfl⟩
  rw [hby] at CB hbin
  rw [hmp] at CM
  have a0 : Aft w (w.alloc (.cells #[.int .u8 x.rest, pv, rv, fv, av, bv, .int .i8 x.s.lv, .int .u8 x.s.so, .int .u8 x.s.eo] 55)) := (Aft.refl w).alloc _
  have X0 := Blk.new w 55 #[.int .u8 x.rest, pv, rv, fv, av, bv, .int .i8 x.s.lv, .int .u8 x.s.so, .int .u8 x.s.eo]
  obtain ⟨A1, k1, epv, r1⟩ := h.p
  obtain ⟨A2, k2, erv, r2⟩ := h.r
  obtain ⟨A3, k3, efv, r3⟩ := h.f
  obtain ⟨A4, k4, eav, r4⟩ := h.a
  obtain ⟨A5, k5, ebv, r5⟩ := h.b
  clear hmp hby
  cases by_
  case true =>
    clear hbin CM CL epv erv efv eav ebv
    have x0 := X0.cell 0
    have x1 := X0.cell 1
    have x2 := X0.cell 2
    have x3 := X0.cell 3
    have x4 := X0.cell 4
    have x5 := X0.cell 5
    have x6 := X0.cell 6
    have x7 := X0.cell 7
    have x8 := X0.cell 8
    have xl := X0.lt
    go_enter Try.func6, Try.ntmps6
    go_wp2_with (first
      | (go_at_call 25; refine (CB _ a0).mono ?_; rintro r1 w1 ⟨rfl, b1⟩; have a1 := a0.trans b1)
      | (go_at_call 27; refine (lives_ok _).mono ?_; rintro r2 w2 ⟨rfl, b2⟩))
    go_ret
    exact ⟨rfl, a1.trans b2⟩
  cases mp
  case false =>
    clear hbin CL epv erv efv eav ebv
    have x0 := X0.cell 0
    have x1 := X0.cell 1
    have x2 := X0.cell 2
    have x3 := X0.cell 3
    have x4 := X0.cell 4
    have x5 := X0.cell 5
    have x6 := X0.cell 6
    have x7 := X0.cell 7
    have x8 := X0.cell 8
    have xl := X0.lt
    go_enter Try.func6, Try.ntmps6
    go_wp2_with (first
      | (go_at_call 25
         refine (CB _ a0).mono ?_
         rintro r1 w1 ⟨rfl, b1⟩
         have a1 := a0.trans b1
         have X1 := X0.aft b1
         have z0 := X1.cell 0
         have z1 := X1.cell 1
         have z2 := X1.cell 2
         have z3 := X1.cell 3
         have z4 := X1.cell 4
         have z5 := X1.cell 5
         have z6 := X1.cell 6
         have z7 := X1.cell 7
         have z8 := X1.cell 8
         have zl := X1.lt)
      | (go_at_call 26; refine (CM _ a1).mono ?_; rintro r2 w2 ⟨rfl, b2⟩; have a2 := a1.trans b2)
      | (go_at_call 27; refine (lives_ok _).mono ?_; rintro r2 w3 ⟨rfl, b3⟩))
    go_ret
    exact ⟨rfl, a2.trans b3⟩
  have hb4 := hbin rfl
  clear hbin
  have hq2 := h.l2
  have hq3 := h.l3
  have hq4 := h.l4
  have hq5 := h.l5
  subst epv erv efv eav ebv
  have hP := h.props
  have hS := h.sq
  obtain ⟨M, hM⟩ : ∃ M, mayL x.rs.length x.s = M := ⟨_, rfl⟩
  obtain ⟨D, hD⟩ : ∃ D, findF x.ch x.rs x.s = D := ⟨_, rfl⟩
  have hDl : D.length ≤ 4000 := by have := findF_len (ch := x.ch) (rs := x.rs) (s := x.s); rw [hD] at this; omega
  have CFy : ∀ W g1 g2 g3 g4 c1 c2 c3 c4 Bl, Aft w W → LentIs W Bl x g1 g2 g3 g4 c1 c2 c3 c4 → Calls Try.prog 29 #[.iface 52 (.agg #[.int .u8 x.rest, .slice A1 x.ch.length k1]), .slice (some ⟨g1, 0, none⟩) x.rs.length c1, .agg (x.s.is (.slice (some ⟨g3, 0, none⟩) x.s.pl.length c3) (.slice (some ⟨g4, 0, none⟩) x.s.cs.length c4))] W fun r w' => ∃ v, r = .returned (.tuple #[v, .int .i64 M]) ∧ BrsAt w' W.heap.size v D ∧ Below W.heap.size W w' := by
    intro W g1 g2 g3 g4 c1 c2 c3 c4 Bl hW hL
    have := PFind_ok (rc := c1) (hP.below hW (.inl (Nat.le_refl _))) hL.runes (hL.sq (by omega) (by omega)) (by omega) (by omega)
    rw [hM, hD] at this
    exact this
  have CFx : ∀ W, Aft w W → Calls Try.prog 29 #[.iface 52 (.agg #[.int .u8 x.rest, .slice A1 x.ch.length k1]), .slice A2 x.rs.length k2, .agg (x.s.is (.slice A4 x.s.pl.length k4) (.slice A5 x.s.cs.length k5))] W fun r w' => ∃ v, r = .returned (.tuple #[v, .int .i64 M]) ∧ BrsAt w' W.heap.size v D ∧ Below W.heap.size W w' := by
    intro W hW
    have := PFind_ok (rc := k2) (hP.below hW (.inl (Nat.le_refl _))) (r2.aft hW) (hS.below hW (.inl (Nat.le_refl _))) (by omega) (by omega)
    rw [hM, hD] at this
    exact this
  have CR : ∀ W, Aft w W → Calls Try.prog 30 #[.agg #[.int .u8 x.rest, .slice A1 x.ch.length k1], .slice A2 x.rs.length k2, .agg (x.s.is (.slice A4 x.s.pl.length k4) (.slice A5 x.s.cs.length k5))] W fun r w' => ∃ v, r = .returned (.tuple #[v, .int .i64 M]) ∧ Rw brC 2 w' W.heap.size 65 v D ∧ Below W.heap.size W w' := by
    intro W hW
    have := rFind_ok (rc := k2) (hP.below hW (.inl (Nat.le_refl _))) (r2.aft hW) (hS.below hW (.inl (Nat.le_refl _))) (by omega)
    rw [hM, hD] at this
    exact this
  have CN : ∀ W, Calls Try.prog 29 #[.nilIface, .slice A2 x.rs.length k2, .agg (x.s.is (.slice A4 x.s.pl.length k4) (.slice A5 x.s.cs.length k5))] W fun r w' => r = .returned (.tuple #[.slice none 0 0, .int .i64 1]) ∧ Below W.heap.size W w' := fun W => PFind_nil W A2 x.rs.length k2 x.s _ _
  have CK : ∀ W g1 g2 g3 g4 c1 c2 c3 c4 Bl, Aft w W → LentIs W Bl x g1 g2 g3 g4 c1 c2 c3 c4 → Calls Try.prog 32 #[.agg (lentV x (.slice A1 x.ch.length k1) g1 g2 g3 g4 c1 c2 c3 c4), .agg #[.int .u8 x.rest, .slice A1 x.ch.length k1, .slice A2 x.rs.length k2, .slice A3 x.fs.length k3, .slice A4 x.s.pl.length k4, .slice A5 x.s.cs.length k5, .int .i8 x.s.lv, .int .u8 x.s.so, .int .u8 x.s.eo]] W fun r w' => r = .returned (.bool true) ∧ Below W.heap.size W w' :=
    fun W g1 g2 g3 g4 c1 c2 c3 c4 Bl hW hL => kept_ok (h.below hW (.inl (Nat.le_refl _))) hL
  have CE : ∀ W B B' A A' c c', RdR brC 2 W B A D → RdR brC 2 W B' A' D → Calls Try.prog 31 #[.slice A D.length c, .slice A' D.length c'] W fun r w' => r = .returned (.bool true) ∧ ∃ m, w' = W.drewN m := by
    intro W B B' A A' c c' h1 h2
    have := sameB_ok (c := c) (c' := c') rfl rfl h1 h2 (by omega)
    have e : brEq D D = true := decide_eq_true rfl
    rw [e] at this
    exact this
  simp only [Sq.is, lentV] at CFy CFx CR CN CK CL
  clear hM hD hP hS r1 r2 r3 r4 r5
  obtain ⟨rest, ch, rs, fs, ⟨pl, cl, lv, so, eo⟩⟩ := x
  simp only at *
  obtain ⟨n0, hn0⟩ : ∃ n, ch.length = n := ⟨_, rfl⟩
  obtain ⟨n1, hn1⟩ : ∃ n, rs.length = n := ⟨_, rfl⟩
  obtain ⟨n2, hn2⟩ : ∃ n, fs.length = n := ⟨_, rfl⟩
  obtain ⟨n3, hn3⟩ : ∃ n, pl.length = n := ⟨_, rfl⟩
  obtain ⟨n4, hn4⟩ : ∃ n, cl.length = n := ⟨_, rfl⟩
  obtain ⟨nd, hnd⟩ : ∃ n, D.length = n := ⟨_, rfl⟩
  rw [hn0, hn1, hn2, hn3, hn4] at CB CL CK a0 X0
  rw [hn0, hn1, hn3, hn4] at CFy CFx CR
  rw [hn0] at CM
  rw [hn1, hn3, hn4] at CN
  rw [hnd] at CE
  rw [hn0, hn1, hn2, hn3, hn4]
  have HND := Lib.hid hnd
  have hnd2 : nd ≤ 4000 := by omega
  clear hn0 hn1 hn2 hn3 hn4 hnd hq2 hq3 hq4 hq5 hb4 h hDl
  obtain ⟨Wb, hWb⟩ : ∃ Wb, w.alloc (.cells #[.int .u8 rest, .slice A1 n0 k1, .slice A2 n1 k2, .slice A3 n2 k3, .slice A4 n3 k4, .slice A5 n4 k5, .int .i8 lv, .int .u8 so, .int .u8 eo] 55) = Wb := ⟨_, rfl⟩
  rw [hWb] at X0 a0
  obtain ⟨u, hu⟩ : ∃ u, w.heap.size = u := ⟨_, rfl⟩
  rw [hu] at X0
  have HWB := Lib.hid hWb
  clear hWb
  have x0 := X0.cell 0
  have x1 := X0.cell 1
  have x2 := X0.cell 2
  have x3 := X0.cell 3
  have x4 := X0.cell 4
  have x5 := X0.cell 5
  have x6 := X0.cell 6
  have x7 := X0.cell 7
  have x8 := X0.cell 8
  have xl := X0.lt
  go_enter Try.func6, Try.ntmps6
  go_upto_region 1 with (fail)
  rw [HWB.out]
  have HU := Lib.hid hu
  clear hu
  go_wp2_with fail
  refine (CB _ a0).mono ?_
  rintro r1 w1 ⟨rfl, b1⟩
  have a1 := a0.trans b1
  have X1 := X0.aft b1
  clear x0 x1 x2 x3 x4 x5 x6 x7 x8 xl
  have x0 := X1.cell 0
  have x1 := X1.cell 1
  have x2 := X1.cell 2
  have x3 := X1.cell 3
  have x4 := X1.cell 4
  have x5 := X1.cell 5
  have x6 := X1.cell 6
  have x7 := X1.cell 7
  have x8 := X1.cell 8
  have xl := X1.lt
  go_wp2_with fail
  refine (CM _ a1).mono ?_
  rintro r2 w2 ⟨rfl, b2⟩
  have a2 := a1.trans b2
  have X2 := X1.aft b2
  clear x0 x1 x2 x3 x4 x5 x6 x7 x8 xl
  have x0 := X2.cell 0
  have x1 := X2.cell 1
  have x2 := X2.cell 2
  have x3 := X2.cell 3
  have x4 := X2.cell 4
  have x5 := X2.cell 5
  have x6 := X2.cell 6
  have x7 := X2.cell 7
  have x8 := X2.cell 8
  have xl := X2.lt
  go_wp2_with fail
  refine (CL _ a2).mono ?_
  rintro r3 w3 ⟨g1, g2, g3, g4, c1, c2, c3, c4, rfl, L3, b3⟩
  have a3 := a2.trans b3
  clear x0 x1 x2 x3 x4 x5 x6 x7 x8 xl
  have Z3 := Blk.new w3 55 #[.int .u8 0, .slice none 0 0, .slice none 0 0, .slice none 0 0, .slice none 0 0, .slice none 0 0, .int .i8 0, .int .u8 0, .int .u8 0]
  have z0 := Z3.cell 0
  have z1 := Z3.cell 1
  have z2 := Z3.cell 2
  have z3 := Z3.cell 3
  have z4 := Z3.cell 4
  have z5 := Z3.cell 5
  have z6 := Z3.cell 6
  have z7 := Z3.cell 7
  have z8 := Z3.cell 8
  have zl := Z3.lt
  have zf := Z3.frozen
  go_upto_region 4 with (fail)
  have X3 := (X2.aft b3).alloc (.cells #[.int .u8 rest, .slice A1 n0 k1, .slice (some ⟨g1, 0, none⟩) n1 c1, .slice (some ⟨g2, 0, none⟩) n2 c2, .slice (some ⟨g3, 0, none⟩) n3 c3, .slice (some ⟨g4, 0, none⟩) n4 c4, .int .i8 lv, .int .u8 so, .int .u8 eo] 55)
  have Y3 := Blk.new w3 55 #[.int .u8 rest, .slice A1 n0 k1, .slice (some ⟨g1, 0, none⟩) n1 c1, .slice (some ⟨g2, 0, none⟩) n2 c2, .slice (some ⟨g3, 0, none⟩) n3 c3, .slice (some ⟨g4, 0, none⟩) n4 c4, .int .i8 lv, .int .u8 so, .int .u8 eo]
  replace a3 := a3.alloc (.cells #[.int .u8 rest, .slice A1 n0 k1, .slice (some ⟨g1, 0, none⟩) n1 c1, .slice (some ⟨g2, 0, none⟩) n2 c2, .slice (some ⟨g3, 0, none⟩) n3 c3, .slice (some ⟨g4, 0, none⟩) n4 c4, .int .i8 lv, .int .u8 so, .int .u8 eo] 55)
  replace L3 := L3.below ((Aft.refl w3).alloc (.cells #[.int .u8 rest, .slice A1 n0 k1, .slice (some ⟨g1, 0, none⟩) n1 c1, .slice (some ⟨g2, 0, none⟩) n2 c2, .slice (some ⟨g3, 0, none⟩) n3 c3, .slice (some ⟨g4, 0, none⟩) n4 c4, .int .i8 lv, .int .u8 so, .int .u8 eo] 55)) (Nat.le_refl _)
  obtain ⟨yb, hyb⟩ : ∃ yb, w3.heap.size = yb := ⟨_, rfl⟩
  rw [hyb] at Y3
  rw [hyb]
  clear z0 z1 z2 z3 z4 z5 z6 z7 z8 zl
  clear zf Z3 hyb b3 X1 X2 X0 CB CM CL
  obtain ⟨W3, hW3⟩ : ∃ W3, w3.alloc (.cells #[.int .u8 rest, .slice A1 n0 k1, .slice (some ⟨g1, 0, none⟩) n1 c1, .slice (some ⟨g2, 0, none⟩) n2 c2, .slice (some ⟨g3, 0, none⟩) n3 c3, .slice (some ⟨g4, 0, none⟩) n4 c4, .int .i8 lv, .int .u8 so, .int .u8 eo] 55) = W3 := ⟨_, rfl⟩
  rw [hW3] at X3 Y3 a3 L3
  rw [hW3]
  clear hW3
  have x0 := X3.cell 0
  have x1 := X3.cell 1
  have x2 := X3.cell 2
  have x3 := X3.cell 3
  have x4 := X3.cell 4
  have x5 := X3.cell 5
  have x6 := X3.cell 6
  have x7 := X3.cell 7
  have x8 := X3.cell 8
  have xl := X3.lt
  have y0 := Y3.cell 0
  have y1 := Y3.cell 1
  have y2 := Y3.cell 2
  have y3 := Y3.cell 3
  have y4 := Y3.cell 4
  have y5 := Y3.cell 5
  have y6 := Y3.cell 6
  have y7 := Y3.cell 7
  have y8 := Y3.cell 8
  have yl := Y3.lt
  go_wp2_with fail
  refine (CFy _ _ _ _ _ _ _ _ _ _ a3 L3).mono ?_
  rintro r4 w4 ⟨va, rfl, BA, b4⟩
  have hA4 : ∀ A n c b off, va = .slice A n c → A = some ⟨b, off, none⟩ → b < w4.heap.size := by
    intro A n c b off e1 e2
    obtain ⟨A', c', h1, _, h3⟩ := BA.form
    rw [h1] at e1
    cases e1
    exact (h3 b off e2).2.2.1
  have hA4 := Lib.hid hA4
  have a4 := a3.trans b4
  have X4 := X3.aft b4
  have Y4 := Y3.aft b4
  have L4 := L3.below b4 (Nat.le_refl _)
  clear x0 x1 x2 x3 x4 x5 x6 x7 x8 xl
  clear y0 y1 y2 y3 y4 y5 y6 y7 y8 yl
  have x0 := X4.cell 0
  have x1 := X4.cell 1
  have x2 := X4.cell 2
  have x3 := X4.cell 3
  have x4 := X4.cell 4
  have x5 := X4.cell 5
  have x6 := X4.cell 6
  have x7 := X4.cell 7
  have x8 := X4.cell 8
  have xl := X4.lt
  go_wp2_with fail
  refine (CFx _ a4).mono ?_
  rintro r5 w5 ⟨vb, rfl, BB, b5⟩
  have a5 := a4.trans b5
  have X5 := X4.aft b5
  have Y5 := Y4.aft b5
  have L5 := L4.below b5 (Nat.le_refl _)
  replace BA := BA.below b5 (Nat.le_refl _)
  clear x0 x1 x2 x3 x4 x5 x6 x7 x8 xl
  have x0 := X5.cell 0
  have x1 := X5.cell 1
  have x2 := X5.cell 2
  have x3 := X5.cell 3
  have x4 := X5.cell 4
  have x5 := X5.cell 5
  have x6 := X5.cell 6
  have x7 := X5.cell 7
  have x8 := X5.cell 8
  have xl := X5.lt
  go_wp2_with fail
  refine (CR _ a5).mono ?_
  rintro r6 w6 ⟨vw, rfl, RW, b6⟩
  have a6 := a5.trans b6
  have X6 := X5.aft b6
  have Y6 := Y5.aft b6
  have L6 := L5.below b6 (Nat.le_refl _)
  replace BA := BA.below b6 (Nat.le_refl _)
  replace BB := BB.below b6 (Nat.le_refl _)
  have hs34 := b4.size
  have hs45 := b5.size
  have hs56 := b6.size
  have hul := X3.lt
  have hsw3 := a3.le
  have hyl := Y3.lt
  clear x0 x1 x2 x3 x4 x5 x6 x7 x8 xl
  obtain ⟨aA, ac, hva, RA, fA⟩ := BA.form
  obtain ⟨bA, bc, hvb, RB, fB⟩ := BB.form
  obtain ⟨wA, wc, hvw, _, _, RWd⟩ := RW.val
  rw [HND.out] at hva hvb hvw
  subst hva hvb hvw
  clear BA BB
  clear X3 X4 X5 Y3 Y4 Y5 L3 L4 L5 a3 a4 a5 b4 b5 b6
  have x0 := X6.cell 0
  have x1 := X6.cell 1
  have x2 := X6.cell 2
  have x3 := X6.cell 3
  have x4 := X6.cell 4
  have x5 := X6.cell 5
  have x6 := X6.cell 6
  have x7 := X6.cell 7
  have x8 := X6.cell 8
  have xl := X6.lt
  have y0 := Y6.cell 0
  have y1 := Y6.cell 1
  have y2 := Y6.cell 2
  have y3 := Y6.cell 3
  have y4 := Y6.cell 4
  have y5 := Y6.cell 5
  have y6 := Y6.cell 6
  have y7 := Y6.cell 7
  have y8 := Y6.cell 8
  have yl := Y6.lt
  go_wp2_with fail
  refine (CE _ _ _ _ _ _ _ RA RWd).mono ?_
  rintro r7 w7 ⟨rfl, d7, rfl⟩
  go_wp2_with fail
  refine (CE _ _ _ _ _ _ _ (RB.drewN d7) (RWd.drewN d7)).mono ?_
  rintro r8 w8 ⟨rfl, d8, rfl⟩
  go_wp2_with fail
  refine (CK _ _ _ _ _ _ _ _ _ _ (a6.drewN _) (L6.below ((Aft.refl w6).drewN _) (Nat.le_refl _))).mono ?_
  rintro r9 w9 ⟨rfl, b9⟩
  have t9 : Aft w6 w9 := ((Aft.refl w6).drewN _).trans b9
  have X9 := X6.aft t9
  have a9 := a6.trans t9
  have hs69 := t9.size
  replace RW := RW.below t9 (Nat.le_refl _)
  replace RB : RdR brC 2 w9 w6.heap.size bA D := RB.below t9 (.inl (Nat.le_refl _))
  replace RA : RdR brC 2 w9 w6.heap.size aA D := RA.below t9 (.inl (Nat.le_refl _))
  have FA : ∀ b off, aA = some ⟨b, off, none⟩ → off = 0 ∧ W3.heap.size ≤ b ∧ b < w4.heap.size ∧ Prs w9 b D ∧ nd ≤ ac := by
    intro b off e
    obtain ⟨h1, h2, h3, h4, h5⟩ := fA b off e
    exact ⟨h1, h2, hA4.out _ _ _ b off rfl e, h4.below t9 h4.lt, by rw [HND.out] at h5; exact h5⟩
  have FB : ∀ b off, bA = some ⟨b, off, none⟩ → w4.heap.size ≤ b := fun b off e => (fB b off e).2.1
  have HFA := Lib.hid FA
  have HFB := Lib.hid FB
  clear x0 x1 x2 x3 x4 x5 x6 x7 x8 xl
  clear y0 y1 y2 y3 y4 y5 y6 y7 y8 yl
  clear FA FB fA fB L6 CFy CFx CR CK X6 Y6 t9 b9 a6 hA4
  obtain ⟨s3, hs3⟩ : ∃ s3, W3.heap.size = s3 := ⟨_, rfl⟩
  obtain ⟨s4, hs4⟩ : ∃ s4, w4.heap.size = s4 := ⟨_, rfl⟩
  rw [hs3] at hs34 hul hyl hsw3
  rw [hs4] at hs34 hs45
  rw [hs3, hs4] at HFA
  rw [hs4] at HFB
  have HS3 := Lib.hid hs3
  have HS4 := Lib.hid hs4
  clear hs3 hs4
  have hsw : w.heap.size ≤ s3 := hsw3
  go_wp2
  go_loopg [10] nd (fun gk iv wr => ∃ i : Nat, i + gk = nd ∧ iv = .int .i64 i ∧ Frm (fun j => s3 ≤ j ∧ j < s4) w9 wr ∧ ∀ b off, aA = some ⟨b, off, none⟩ → ∃ D', D'.length = nd ∧ Prs wr b D')
  case atStart => exact ⟨0, by omega, rfl, Frm.refl _ _, fun b off e => ⟨D, HND.out, (HFA.out b off e).2.2.2.1⟩⟩
  case round =>
    obtain ⟨i, hi, rfl, FF, PP⟩ := hrel
    have HI := Lib.hid hi
    have HPP := Lib.hid PP
    clear hi PP
    have X10 := X9.frm FF (by omega)
    have hs9 := FF.size
    by_cases hlt : i < nd
    · obtain ⟨ga, off, rfl, e1, e2⟩ := RA.cons_some (by have := HND.out; omega)
      obtain ⟨rfl, hg3, hg4, _, hac⟩ := HFA.out ga _ rfl
      obtain ⟨D', hD', P'⟩ := HPP.out ga 0 rfl
      obtain ⟨p0, p1⟩ := P'.cell (i := i) (by omega)
      have pf0 := P'.free (i * 2)
      have pf1 := P'.free (i * 2 + 1)
      have pl := P'.lt
      have P2 := P'.set i (-9, 0)
      have hD2 : (D'.set i (-9, 0)).length = nd := by rw [List.length_set]; exact hD'
      have FF2 : Frm (fun j => s3 ≤ j ∧ j < s4) w9 ((wr.setCell ⟨ga, i * 2, none⟩ (.int .i64 (-9))).setCell ⟨ga, i * 2 + 1, none⟩ (.int .i64 0)) := Frm.set (F := fun j => s3 ≤ j ∧ j < s4) (b := ga) (j := i * 2 + 1) (Frm.set (F := fun j => s3 ≤ j ∧ j < s4) (b := ga) (j := i * 2) FF ⟨hg3, hg4⟩ _) ⟨hg3, hg4⟩ _
      have HD2 := Lib.hid hD2
      clear hD' hD2
      go_wp2
      go_roundg (nd - (i + 1))
      case rel => exact ⟨i + 1, by have := HI.out; omega, by go_num, FF2, fun b off e => by cases e; exact ⟨_, HD2.out, P2⟩⟩
      case measure => have := HI.out; omega
    · have hin : i = nd := by have := HI.out; omega
      subst hin
      have a10 : Aft w wr := Below.trans a9 (FF.below a9.le (fun k hk e => by omega))
      have RB10 : RdR brC 2 wr w6.heap.size bA D := RB.frmA FF (fun b off e h => by have := HFB.out b off e; omega)
      have RW10 := (RW.frm FF (fun j e h => by have := (RW.lt j e).1; omega)).rd
      have x0 := X10.cell 0
      have x1 := X10.cell 1
      have x2 := X10.cell 2
      have x3 := X10.cell 3
      have x4 := X10.cell 4
      have x5 := X10.cell 5
      have x6 := X10.cell 6
      have x7 := X10.cell 7
      have x8 := X10.cell 8
      have xl := X10.lt
      clear RA RB RW HFA HFB HPP FF X9 a9
      obtain ⟨W00, rfl⟩ : ∃ W00, W00 = wr := ⟨_, rfl⟩
      go_wp2_with fail
      refine (CN _).mono ?_
      rintro r11 w11 ⟨rfl, b11⟩
      have a11 := a10.trans b11
      go_wp2_with fail
      refine (CE _ _ _ _ _ _ _ (RB10.below b11 (.inr (Nat.le_refl _))) (RW10.below b11 (.inr (Nat.le_refl _)))).mono ?_
      rintro r12 w12 ⟨rfl, d12, rfl⟩
      go_wp2_with fail
      refine (lives_ok _).mono ?_
      rintro r13 w13 ⟨rfl, b13⟩
      have a13 : Aft w w13 := (a11.drewN d12).trans b13
      go_wp2
      go_ret
      exact ⟨rfl, a13⟩
end Go.Proofs.Ytpdackbcnbhppaa
