/- Whatever props tell. -/
import Derived.Test.YtpdackbcnbhppaaR21
import Derived.Test.YtpdackbcnbhppaaA2
namespace Go.Proofs.Ytpdackbcnbhppaa
open Go.RowKit
attribute [local go_sem] Oper.semAt_some

section
variable {W W' : World} {B : Nat} {cs : Array Value} {x : InL} {pv rv fv av bv : Value}
theorem InIs.below {C : Nat} (h : InIs W B cs x pv rv fv av bv) (hb : Below C W W') (hC : B ≤ C ∨ W.heap.size ≤ C) : InIs W' B cs x pv rv fv av bv := by
  obtain ⟨A1, c1, e1, r1⟩ := h.p
  obtain ⟨A2, c2, e2, r2⟩ := h.r
  obtain ⟨A3, c3, e3, r3⟩ := h.f
  obtain ⟨A4, c4, e4, r4⟩ := h.a
  obtain ⟨A5, c5, e5, r5⟩ := h.b
  exact ⟨h.hcs, ⟨A1, c1, e1, r1.below hb hC⟩, ⟨A2, c2, e2, r2.below hb hC⟩, ⟨A3, c3, e3, r3.below hb hC⟩, ⟨A4, c4, e4, r4.below hb hC⟩, ⟨A5, c5, e5, r5.below hb hC⟩, h.l1, h.l2, h.l3, h.l4, h.l5, h.wr, h.wf, h.wa, h.wb, h.wl, h.ws, h.we⟩
theorem InIs.props (h : InIs W B cs x pv rv fv av bv) : PropsIs W B (.agg #[.int .u8 x.rest, pv]) x.rest x.ch := by
  obtain ⟨A1, c1, rfl, r1⟩ := h.p
  have := h.l1
  exact ⟨A1, c1, rfl, r1, by omega⟩
theorem InIs.sq (h : InIs W B cs x pv rv fv av bv) : SqIs W B (.agg (x.s.is av bv)) x.s := by
  obtain ⟨A4, c4, rfl, r4⟩ := h.a
  obtain ⟨A5, c5, rfl, r5⟩ := h.b
  have := h.l4
  have := h.l5
  exact ⟨A4, A5, c4, c5, rfl, r4, r5, by omega, by omega⟩
end

/-- More than a statement plays? -/
def bynd (x : InL) : Bool := decide (4000 < x.s.pl.length) || decide (4000 < x.ch.length)
set_option maxRecDepth 100000 in
set_option maxHeartbeats 1000000 in
theorem beyond_ok {w : World} {B : Nat} {cs : Array Value} {x : InL} {pv rv fv av bv : Value} (h : InIs w B cs x pv rv fv av bv) :
    Calls Try.prog 25 #[.agg cs] w fun r w' => r = .returned (.bool (bynd x)) ∧ Below w.heap.size w w' := by
  have hcs := h.hcs
  obtain ⟨A1, c1, rfl, r1⟩ := h.p
  obtain ⟨A4, c4, rfl, r4⟩ := h.a
  subst hcs
  have hx : bynd x = (decide (4000 < x.s.pl.length) || decide (4000 < x.ch.length)) := rfl
  obtain ⟨n, hn⟩ : ∃ n, x.s.pl.length = n := ⟨_, rfl⟩
  obtain ⟨m, hm⟩ : ∃ m, x.ch.length = m := ⟨_, rfl⟩
  rw [hn, hm] at hx
  rw [hn, hm, hx]
  by_cases h1 : 4000 < n
  · go_enter Try.func25, Try.ntmps25
    go_wp2
    go_ret
    exact ⟨by simp [], (Below.refl _ _).alloc (Nat.le_refl _) _⟩
  · by_cases h2 : 4000 < m
    · go_enter Try.func25, Try.ntmps25
      go_wp2
      go_ret
      exact ⟨by simp [h1, h2]; omega, (Below.refl _ _).alloc (Nat.le_refl _) _⟩
    · go_enter Try.func25, Try.ntmps25
      go_wp2
      go_ret
      exact ⟨by simp [h1, h2]; omega, (Below.refl _ _).alloc (Nat.le_refl _) _⟩

set_option maxRecDepth 100000 in
set_option maxHeartbeats 1000000 in
theorem wild_walk {w : World} {cs : Array Value} {x : InL} {pv rv fv av bv : Value} (h : InIs w w.heap.size cs x pv rv fv av bv) :
    Calls Try.prog 8 #[.agg cs] w fun r w' => r = .returned (.bool true) ∧ Below w.heap.size w w' := by
  have hcs := h.hcs
  subst hcs
  have CB : ∀ W, Below w.heap.size w W → Calls Try.prog 25 #[.agg #[.int .u8 x.rest, pv, rv, fv, av, bv, .int .i8 x.s.lv, .int .u8 x.s.so, .int .u8 x.s.eo]] W fun r w' => r = .returned (.bool (bynd x)) ∧ Below W.heap.size W w' := fun W hW => beyond_ok (h.below hW (.inl (Nat.le_refl _)))
  have h1 := h.l1
  have h2 := h.l2
  have h3 := h.l3
  have hP := h.props
  have hS := h.sq
  obtain ⟨A1, c1, rfl, r1⟩ := h.p
  obtain ⟨A2, c2, rfl, r2⟩ := h.r
  obtain ⟨A3, c3, rfl, r3⟩ := h.f
  obtain ⟨A4, c4, rfl, r4⟩ := h.a
  obtain ⟨A5, c5, rfl, r5⟩ := h.b
  have b0 := (Below.refl w.heap.size w).alloc (Nat.le_refl _) (.cells #[.int .u8 x.rest, .slice A1 x.ch.length c1, .slice A2 x.rs.length c2, .slice A3 x.fs.length c3, .slice A4 x.s.pl.length c4, .slice A5 x.s.cs.length c5, .int .i8 x.s.lv, .int .u8 x.s.so, .int .u8 x.s.eo] 55)
  have X0 := Blk.new w 55 #[.int .u8 x.rest, .slice A1 x.ch.length c1, .slice A2 x.rs.length c2, .slice A3 x.fs.length c3, .slice A4 x.s.pl.length c4, .slice A5 x.s.cs.length c5, .int .i8 x.s.lv, .int .u8 x.s.so, .int .u8 x.s.eo]
  rcases hb : bynd x with _ | _
  · rw [hb] at CB
    have hbn : x.s.pl.length ≤ 4000 ∧ x.ch.length ≤ 4000 := by
      unfold bynd at hb
      simp only [Bool.or_eq_false_iff, decide_eq_false_iff_not] at hb
      omega
    clear hb
    obtain ⟨M, hM⟩ : ∃ M, mayL x.rs.length x.s = M := ⟨_, rfl⟩
    obtain ⟨D, hD⟩ : ∃ D, findF x.ch x.rs x.s = D := ⟨_, rfl⟩
    obtain ⟨E, hE⟩ : ∃ E, resE x.rs.length x.fs.length x.s = E := ⟨_, rfl⟩
    obtain ⟨S, hSS⟩ : ∃ S, resS x.ch x.rs x.fs x.s = S := ⟨_, rfl⟩
    have hin : M = 0 ∨ D = [] := by
      by_cases h0 : M = 0
      · exact .inl h0
      · right; rw [← hD]; unfold findF; rw [if_neg (by rw [hM]; exact h0)]
    have hDin : ∀ e ∈ D, 0 ≤ e.1 ∧ e.1 < e.2 ∧ e.2 < (x.s.pl.length : Int) := by rw [← hD]; exact findF_in
    have hDl : D.length ≤ 4000 := by have := findF_len (ch := x.ch) (rs := x.rs) (s := x.s); rw [hD] at this; omega
    have hSl : E = 0 → S.pl.length = x.s.pl.length := by
      intro h0; rw [← hSS]; unfold resS; rw [if_pos (by rw [hE]; exact h0)]
    have CF : ∀ W, Below w.heap.size w W → Calls Try.prog 29 #[.iface 52 (.agg #[.int .u8 x.rest, .slice A1 x.ch.length c1]), .slice A2 x.rs.length c2, .agg (x.s.is (.slice A4 x.s.pl.length c4) (.slice A5 x.s.cs.length c5))] W fun r w' => ∃ v, r = .returned (.tuple #[v, .int .i64 M]) ∧ BrsAt w' W.heap.size v D ∧ Below W.heap.size W w' := by
      intro W hW
      have := PFind_ok (rc := c2) (hP.below hW (.inl (Nat.le_refl _))) (r2.below hW (.inl (Nat.le_refl _))) (hS.below hW (.inl (Nat.le_refl _))) (by omega) (by omega)
      rw [hM, hD] at this
      exact this
    have CR : ∀ W, Below w.heap.size w W → Calls Try.prog 33 #[.iface 52 (.agg #[.int .u8 x.rest, .slice A1 x.ch.length c1]), .slice A2 x.rs.length c2, .slice A3 x.fs.length c3, .agg (x.s.is (.slice A4 x.s.pl.length c4) (.slice A5 x.s.cs.length c5))] W fun r w' => ∃ v, r = .returned (.tuple #[v, .int .i64 E]) ∧ SqOwn w' W.heap.size v S ∧ Below W.heap.size W w' := by
      intro W hW
      have := PResolve_ok (rc := c2) (fc := c3) (hP.below hW (.inl (Nat.le_refl _))) (r2.below hW (.inl (Nat.le_refl _))) (r3.below hW (.inl (Nat.le_refl _))) (hS.below hW (.inl (Nat.le_refl _))) (by omega) (by omega) (by omega)
      rw [hE, hSS] at this
      exact this
    have HM := Lib.hid hM
    have HD := Lib.hid hD
    have HE := Lib.hid hE
    have HSS := Lib.hid hSS
    clear hM hD hE hSS hP hS r1 r2 r3 r4 r5 h
    simp only [Sq.is] at CF CR
    obtain ⟨rest, ch, rs, fs, pl, cl, lv, so, eo⟩ := x
    simp only at *
    generalize pl.length = n at *
    generalize ch.length = nc at *
    generalize rs.length = nr at *
    generalize fs.length = nf at *
    generalize cl.length = nk at *
    obtain ⟨Wb, hWb⟩ : ∃ Wb, w.alloc (.cells #[.int .u8 rest, .slice A1 nc c1, .slice A2 nr c2, .slice A3 nf c3, .slice A4 n c4, .slice A5 nk c5, .int .i8 lv, .int .u8 so, .int .u8 eo] 55) = Wb := ⟨_, rfl⟩
    rw [hWb] at X0 b0
    obtain ⟨u, hu⟩ : ∃ u, w.heap.size = u := ⟨_, rfl⟩
    rw [hu] at X0 b0 CF CB CR ⊢
    have x00 := X0.cell 0
    have x01 := X0.cell 1
    have x02 := X0.cell 2
    have x03 := X0.cell 3
    have x04 := X0.cell 4
    have x05 := X0.cell 5
    have x06 := X0.cell 6
    have x07 := X0.cell 7
    have x08 := X0.cell 8
    have xl0 := X0.lt
    have hus : u ≤ Wb.heap.size := by have := b0.size; omega
    go_enter Try.func8, Try.ntmps8
    go_wp2_with (first
      | (go_at_call 25
         refine (CB _ b0).mono ?_
         rintro r1 w1 ⟨rfl, b1⟩
         have X1 := X0.below b1 X0.lt
         have b01 := b0.trans (b1.mono hus)
         have x10 := X1.cell 0
         have x11 := X1.cell 1
         have x12 := X1.cell 2
         have x13 := X1.cell 3
         have x14 := X1.cell 4
         have x15 := X1.cell 5
         have x16 := X1.cell 6
         have x17 := X1.cell 7
         have x18 := X1.cell 8
         have xl1 := X1.lt)
      | (go_at_call 29; refine (CF _ b01).mono ?_
         rintro r2 w2 ⟨v2, rfl, B2, b2⟩
         have X2 := X1.below b2 X1.lt
         have b02 := b01.trans (b2.mono (by have := b01.size; omega))
         have x20 := X2.cell 0
         have x21 := X2.cell 1
         have x22 := X2.cell 2
         have x23 := X2.cell 3
         have x24 := X2.cell 4
         have x25 := X2.cell 5
         have x26 := X2.cell 6
         have x27 := X2.cell 7
         have x28 := X2.cell 8
         have xl2 := X2.lt)
      | (go_at_call 33; refine (CR _ b02).mono ?_
         rintro r3 w3 ⟨v3, rfl, ⟨pv, cv, rfl, I3, J3, ne3⟩, b3⟩
         have X3 := X2.below b3 X2.lt
         have b03 := b02.trans (b3.mono (by have := b02.size; omega))
         obtain ⟨pA, pc, rfl, _, _, _⟩ := I3.val
         obtain ⟨cA, cc, rfl, _, _, _⟩ := J3.val
         simp only [Sq.is]
         obtain ⟨y0, y1, y2, y3, y4, yf, yl⟩ := (Blk.new w3 35 #[.slice none 0 0, .slice none 0 0, .int .i8 0, .int .u8 0, .int .u8 0]).c5))
    have hs3 : u ≤ w3.heap.size := by have := b03.size; omega
    have b04 : Below u w (w3.alloc (.cells #[.slice pA S.pl.length pc, .slice cA S.cs.length cc, .int .i8 S.lv, .int .u8 S.so, .int .u8 S.eo] 35)) := b03.alloc hs3 _
    have X4 := X3.alloc (.cells #[.slice pA S.pl.length pc, .slice cA S.cs.length cc, .int .i8 S.lv, .int .u8 S.so, .int .u8 S.eo] 35)
    have Y4 := Blk.new w3 35 #[.slice pA S.pl.length pc, .slice cA S.cs.length cc, .int .i8 S.lv, .int .u8 S.so, .int .u8 S.eo]
    have hB4 : ∃ A cap, v2 = .slice A D.length cap ∧ (0 < D.length → ∃ g, A = some ⟨g, 0, none⟩ ∧ Prs (w3.alloc (.cells #[.slice pA S.pl.length pc, .slice cA S.cs.length cc, .int .i8 S.lv, .int .u8 S.so, .int .u8 S.eo] 35)) g D) := by
      obtain ⟨rfl, h0⟩ | ⟨g, cap, rfl, X, hg, hcap⟩ := B2
      · exact ⟨none, 0, by rw [h0]; rfl, fun h => by rw [h0] at h; cases h⟩
      · exact ⟨_, cap, rfl, fun _ => ⟨g, rfl, (X.below b3 X.lt).alloc _⟩⟩
    obtain ⟨vA, vc, rfl, hB4⟩ := hB4
    obtain ⟨W4, hW4⟩ : ∃ W4, w3.alloc (.cells #[.slice pA S.pl.length pc, .slice cA S.cs.length cc, .int .i8 S.lv, .int .u8 S.so, .int .u8 S.eo] 35) = W4 := ⟨_, rfl⟩
    rw [hW4] at b04 X4 Y4 hB4 ⊢
    have z44 := X4.cell 4
    have zl4 := X4.lt
    have t40 := Y4.cell 0
    have tl4 := Y4.lt
    clear hW4 y0 y1 y2 y3 y4 yf yl x00 x01 x02 x03 x04 x05 x06 x07 x08 xl0 x10 x11 x12 x13 x14 x15 x16 x17 x18 xl1 x20 x21 x22 x23 x24 x25 x26 x27 x28 xl2 CF CR CB B2 b03 b02 b01 b0 b1 b2 b3 X0 X1 X2 X3 I3 J3 ne3 hWb
    have hs4 : u ≤ W4.heap.size := by have := b04.size; omega
    obtain ⟨N, hN⟩ : ∃ N, D.length = N := ⟨_, rfl⟩
    rw [hN] at hB4 hDl ⊢
    have HN := Lib.hid hN
    clear hN
    go_loopg [7] N (fun gk iv wr => ∃ i : Nat, i + gk = N ∧ iv = .int .i64 i ∧ ∃ d, wr = W4.drewN d)
    case atStart => exact ⟨0, by omega, rfl, 0, rfl⟩
    case round =>
      obtain ⟨i, hi, rfl, d, rfl⟩ := hrel
      have HI := Lib.hid hi
      clear hi
      by_cases hlt : i < N
      · obtain ⟨g, rfl, X⟩ := hB4 (by omega)
        obtain ⟨x0, x1⟩ := X.cell (i := i) (by rw [HN.out]; exact hlt)
        have hM0 : M = 0 := by
          rcases hin with h | h
          · exact h
          · rw [h] at HN; have := HN.out; simp at this; omega
        subst hM0
        have hd := hDin (D.getD i (0, 0)) (by rw [List.getD_eq_getElem?_getD, List.getElem?_eq_getElem (by rw [HN.out]; exact hlt)]; exact List.getElem_mem _)
        have xl := X.lt
        generalize D.getD i (0, 0) = ab at x0 x1 hd
        obtain ⟨a, b⟩ := ab
        simp only at x0 x1 hd
        have d1 : decide (a < 0) = false := by simp; omega
        have d2 : decide ((n : Int) ≤ a) = false := by simp; omega
        have d3 : decide (b < 0) = false := by simp; omega
        have d4 : decide ((n : Int) ≤ b) = false := by simp; omega
        go_wp2
        go_quiet (fail)
        go_wp2
        go_roundg (N - (i + 1))
        case rel => exact ⟨i + 1, by have := HI.out; omega, by go_num, _, rfl⟩
        case measure => have := HI.out; omega
      · have hiN : i = N := by have := HI.out; omega
        subst hiN
        clear hB4 hDin HD HSS HM
        have L := lives_ok (W4.drewN d)
        by_cases hE0 : E = 0
        · subst hE0
          have hSl' := hSl rfl
          rw [hSl'] at t40
          go_wp2_with (go_at_call 27; refine L.mono ?_; rintro r5 w5 ⟨rfl, b5⟩)
          go_ret
          exact ⟨rfl, (show Below u w (W4.drewN d) from ⟨b04.os, b04.tape, b04.output, b04.size, b04.block⟩).trans (b5.mono (show u ≤ (W4.drewN d).heap.size from hs4))⟩
        · have hne : (E != 0) = true := by simpa using hE0
          go_wp2_with (go_at_call 27; refine L.mono ?_; rintro r5 w5 ⟨rfl, b5⟩)
          go_ret
          exact ⟨rfl, (show Below u w (W4.drewN d) from ⟨b04.os, b04.tape, b04.output, b04.size, b04.block⟩).trans (b5.mono (show u ≤ (W4.drewN d).heap.size from hs4))⟩
  · rw [hb] at CB
    go_enter Try.func8, Try.ntmps8
    go_wp2_with (first
      | (go_at_call 25; refine (CB _ b0).mono ?_; rintro r1 w1 ⟨rfl, b1⟩)
      | (go_at_call 27; refine (lives_ok _).mono ?_; rintro r2 w2 ⟨rfl, b2⟩))
    go_ret
    have b01 := b0.trans (b1.mono b0.size)
    exact ⟨rfl, b01.trans (b2.mono b01.size)⟩
end Go.Proofs.Ytpdackbcnbhppaa
