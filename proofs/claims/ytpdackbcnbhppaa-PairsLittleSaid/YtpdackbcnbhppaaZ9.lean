/- Resolving brackets changes little: what changes becomes L or R, and follows an end of a pair. -/
import Derived.Test.YtpdackbcnbhppaaY12
import Derived.Test.YtpdackbcnbhppaaZ7
namespace Go.Proofs.Ytpdackbcnbhppaa
open Go.RowKit
attribute [local go_sem] Oper.semAt_some

theorem endB_snoc (D : List (Int × Int)) (q : Nat) (e : Int × Int) : endB (D ++ [e]) q = (endB D q || (decide (e.1 = (q : Int)) || decide (e.2 = (q : Int)))) := by
  unfold endB; rw [List.any_append]; simp
theorem endB_take {D : List (Int × Int)} {i : Nat} (h : i < D.length) (q : Nat) : endB (D.take (i + 1)) q = (endB (D.take i) q || (decide ((D.getD i (0, 0)).1 = (q : Int)) || decide ((D.getD i (0, 0)).2 = (q : Int)))) := by
  have e : D.take (i + 1) = D.take i ++ [D.getD i (0, 0)] := by
    rw [List.take_succ_eq_append_getElem h, List.getD_eq_getElem?_getD, List.getElem?_eq_getElem h]; rfl
  rw [e, endB_snoc]
theorem set2_get {l : List Bool} {a b q : Nat} (ha : a < l.length) (hb : b < l.length) : ((l.set a true).set b true).getD q false = (l.getD q false || (decide (a = q) || decide (b = q))) := by
  simp only [List.getD_eq_getElem?_getD, List.getElem?_set]
  by_cases h1 : b = q
  · subst h1; simp [hb]
  · by_cases h2 : a = q
    · subst h2; simp [h1, ha]
    · simp [h1, h2]
theorem bk_go {pl fs : List Int} {D : List (Int × Int)} {k : Nat} (h1 : endB D (k + 1) = false) (h2 : nsm pl fs (k + 1)) : bk pl fs D (k + 1) = bk pl fs D k := by rw [bk, if_pos ⟨h1, h2⟩]
theorem bk_end {pl fs : List Int} {D : List (Int × Int)} {k : Nat} (h : endB D k = true) : bk pl fs D k = k := by
  cases k with
  | zero => rfl
  | succ k => rw [bk, if_neg (fun h2 => by rw [h] at h2; cases h2.1)]
theorem bk_not {pl fs : List Int} {D : List (Int × Int)} {k : Nat} (h : ¬ nsm pl fs k) : bk pl fs D k = k := by
  cases k with
  | zero => rfl
  | succ k => rw [bk, if_neg (fun h2 => h h2.2)]

set_option maxRecDepth 100000 in
set_option maxHeartbeats 4000000 in
theorem little_walk {w : World} {cs : Array Value} {x : InL} {pv rv fv av bv : Value} (h : InIs w w.heap.size cs x pv rv fv av bv) :
    Calls Try.prog 10 #[.agg cs] w fun r w' => r = .returned (.bool true) ∧ Below w.heap.size w w' := by
  have hcs := h.hcs
  have CB : ∀ W, Aft w W → Calls Try.prog 25 #[.agg cs] W fun r w' => r = .returned (.bool (bynd x)) ∧ Below W.heap.size W w' := fun W hW => beyond_ok (h.below hW (.inl (Nat.le_refl _)))
  have CM : ∀ W, Aft w W → Calls Try.prog 26 #[.agg #[.int .u8 x.rest, pv]] W fun r w' => r = .returned (.bool (mayP x.rest x.ch)) ∧ Below W.heap.size W w' := fun W hW => May_ok (h.props.below hW (.inl (Nat.le_refl _)))
  have hbin : bynd x = false → x.s.pl.length ≤ 4000 ∧ x.ch.length ≤ 4000 := by
    intro hb
    unfold bynd at hb
    simp only [Bool.or_eq_false_iff, decide_eq_false_iff_not] at hb
    omega
  subst hcs
  obtain ⟨by_, hby⟩ : ∃ z, bynd x = z := ⟨_, rfl⟩
  obtain ⟨mp, hmp⟩ : ∃ z, mayP x.rest x.ch = z := ⟨_, rfl⟩
  rw [hby] at CB hbin
  rw [hmp] at CM
  have a0 : Aft w (w.alloc (.cells #[.int .u8 x.rest, pv, rv, fv, av, bv, .int .i8 x.s.lv, .int .u8 x.s.so, .int .u8 x.s.eo] 55)) := (Aft.refl w).alloc _
  have X0 := Blk.new w 55 #[.int .u8 x.rest, pv, rv, fv, av, bv, .int .i8 x.s.lv, .int .u8 x.s.so, .int .u8 x.s.eo]
  obtain ⟨A1, k1, epv, r1⟩ := h.p
  obtain ⟨A2, k2, erv, r2⟩ := h.r
  obtain ⟨A3, k3, efv, r3⟩ := h.f
  obtain ⟨A4, k4, eav, r4⟩ := h.a
  obtain ⟨A5, k5, ebv, r5⟩ := h.b
  clear hmp hby
  cases by_
  case true =>
    clear hbin CM epv erv efv eav ebv
    have x0 := X0.cell 0
    have x1 := X0.cell 1
    have x2 := X0.cell 2
    have x3 := X0.cell 3
    have x4 := X0.cell 4
    have x5 := X0.cell 5
    have x6 := X0.cell 6
    have x7 := X0.cell 7
    have x8 := X0.cell 8
    have xl := X0.lt
    go_enter Try.func10, Try.ntmps10
    go_wp2_with (first
      | (go_at_call 25; refine (CB _ a0).mono ?_; rintro r1 w1 ⟨rfl, b1⟩; have a1 := a0.trans b1)
      | (go_at_call 27; refine (lives_ok _).mono ?_; rintro r2 w2 ⟨rfl, b2⟩))
    go_ret
    exact ⟨rfl, a1.trans b2⟩
  cases mp
  case false =>
    clear hbin epv erv efv eav ebv
    have x0 := X0.cell 0
    have x1 := X0.cell 1
    have x2 := X0.cell 2
    have x3 := X0.cell 3
    have x4 := X0.cell 4
    have x5 := X0.cell 5
    have x6 := X0.cell 6
    have x7 := X0.cell 7
    have x8 := X0.cell 8
    have xl := X0.lt
    go_enter Try.func10, Try.ntmps10
    go_wp2_with (first
      | (go_at_call 25
         refine (CB _ a0).mono ?_
         rintro r1 w1 ⟨rfl, b1⟩
         have a1 := a0.trans b1
         have X1 := X0.aft b1
         have z0 := X1.cell 0
         have z1 := X1.cell 1
         have z2 := X1.cell 2
         have z3 := X1.cell 3
         have z4 := X1.cell 4
         have z5 := X1.cell 5
         have z6 := X1.cell 6
         have z7 := X1.cell 7
         have z8 := X1.cell 8
         have zl := X1.lt)
      | (go_at_call 26; refine (CM _ a1).mono ?_; rintro r2 w2 ⟨rfl, b2⟩; have a2 := a1.trans b2)
      | (go_at_call 27; refine (lives_ok _).mono ?_; rintro r2 w3 ⟨rfl, b3⟩))
    go_ret
    exact ⟨rfl, a2.trans b3⟩
  have hb4 := hbin rfl
  clear hbin
  have hq2 := h.l2
  have hq3 := h.l3
  have hq4 := h.l4
  have hq5 := h.l5
  subst epv erv efv eav ebv
  have hP := h.props
  have hS := h.sq
  obtain ⟨M, hM⟩ : ∃ M, mayL x.rs.length x.s = M := ⟨_, rfl⟩
  obtain ⟨E, hE⟩ : ∃ E, resE x.rs.length x.fs.length x.s = E := ⟨_, rfl⟩
  obtain ⟨D, hD⟩ : ∃ D, findF x.ch x.rs x.s = D := ⟨_, rfl⟩
  obtain ⟨RS, hRS⟩ : ∃ RS, resS x.ch x.rs x.fs x.s = RS := ⟨_, rfl⟩
  have hDl : D.length ≤ 4000 := by have := findF_len (ch := x.ch) (rs := x.rs) (s := x.s); rw [hD] at this; omega
  have hDin : ∀ e ∈ D, 0 ≤ e.1 ∧ e.1 < e.2 ∧ e.2 < (x.s.pl.length : Int) := by rw [← hD]; exact findF_in
  have CF : ∀ W, Aft w W → Calls Try.prog 29 #[.iface 52 (.agg #[.int .u8 x.rest, .slice A1 x.ch.length k1]), .slice A2 x.rs.length k2, .agg (x.s.is (.slice A4 x.s.pl.length k4) (.slice A5 x.s.cs.length k5))] W fun r w' => ∃ v, r = .returned (.tuple #[v, .int .i64 M]) ∧ BrsAt w' W.heap.size v D ∧ Below W.heap.size W w' := by
    intro W hW
    have := PFind_ok (rc := k2) (hP.below hW (.inl (Nat.le_refl _))) (r2.aft hW) (hS.below hW (.inl (Nat.le_refl _))) (by omega) (by omega)
    rw [hM, hD] at this
    exact this
  have CR : ∀ W, Aft w W → Calls Try.prog 33 #[.iface 52 (.agg #[.int .u8 x.rest, .slice A1 x.ch.length k1]), .slice A2 x.rs.length k2, .slice A3 x.fs.length k3, .agg (x.s.is (.slice A4 x.s.pl.length k4) (.slice A5 x.s.cs.length k5))] W fun r w' => ∃ v, r = .returned (.tuple #[v, .int .i64 E]) ∧ SqOwn w' W.heap.size v RS ∧ Below W.heap.size W w' := by
    intro W hW
    have := PResolve_ok (rc := k2) (fc := k3) (hP.below hW (.inl (Nat.le_refl _))) (r2.aft hW) (r3.aft hW) (hS.below hW (.inl (Nat.le_refl _))) (by omega) (by omega) (by omega)
    rw [hE, hRS] at this
    exact this
  have hEM : E = M ∨ E = 2 := by
    rw [← hE, ← hM]
    unfold resE
    by_cases h1 : mayL x.rs.length x.s = 0
    · rw [if_neg (by simpa using h1), h1]
      have hc := (may_zero h1).1
      unfold mayL
      rw [if_neg (by simpa using hc)]
      split
      · exact .inr rfl
      · exact .inl rfl
    · rw [if_pos h1]; exact .inl rfl
  have hE0 : E = 0 → M = 0 ∧ mayL x.fs.length x.s = 0 := by
    intro h0
    rw [← hE] at h0
    unfold resE at h0
    rw [← hM]
    by_cases h1 : mayL x.rs.length x.s = 0
    · rw [if_neg (by simpa using h1)] at h0; exact ⟨h1, h0⟩
    · rw [if_pos h1] at h0; exact absurd h0 h1
  have hAll : E = 0 → x.s.pl.length = x.s.cs.length ∧ 0 < x.s.pl.length ∧ (∀ i, i < x.s.pl.length → 0 ≤ x.s.pl.getD i 0 ∧ x.s.pl.getD i 0 < (x.fs.length : Int)) ∧
      ∃ C, RS = { x.s with cs := C } ∧ Ltl x.s x.fs D C := by
    intro h0
    obtain ⟨h1, h2⟩ := hE0 h0
    obtain ⟨hck, hin⟩ := may_zero h2
    obtain ⟨hp, hl⟩ := chk_pos hck
    refine ⟨hl, hp, hin, resT x.s x.fs D D.length, ?_, ?_⟩
    · rw [← hRS]
      unfold resS
      rw [if_pos (by rw [hE]; exact h0), hD]
    · have hb : 0 ≤ x.s.lv ∧ x.s.lv ≤ 126 ∧ (x.s.so = 1 ∨ x.s.so = 2) := by
        unfold chkL at hck
        split at hck
        · cases hck
        · rename_i hn
          simp only [not_or] at hn
          obtain ⟨_, _, h3, h4, h5, _⟩ := hn
          refine ⟨by omega, by omega, ?_⟩
          unfold edgeI at h5
          simp at h5
          omega
      exact resT_ltl hl hDin hb.1 hb.2.1 hb.2.2 D.length (Nat.le_refl _)
  simp only [Sq.is] at CF CR
  have HCF := Lib.hid CF
  have HCR := Lib.hid CR
  have HALL := Lib.hid hAll
  have HEM := Lib.hid hEM
  have HE0 := Lib.hid (fun h => (hE0 h).1 : E = 0 → M = 0)
  have HDIN := Lib.hid hDin
  clear hM hE hD hRS hP hS CF CR hEM hE0 hAll hDin r1 r2
  obtain ⟨rest, ch, rs, fs, ⟨pl, cl, lv, so, eo⟩⟩ := x
  simp only at *
  obtain ⟨n0, hn0⟩ : ∃ n, ch.length = n := ⟨_, rfl⟩
  obtain ⟨n1, hn1⟩ : ∃ n, rs.length = n := ⟨_, rfl⟩
  obtain ⟨n2, hn2⟩ : ∃ n, fs.length = n := ⟨_, rfl⟩
  obtain ⟨n3, hn3⟩ : ∃ n, pl.length = n := ⟨_, rfl⟩
  obtain ⟨n4, hn4⟩ : ∃ n, cl.length = n := ⟨_, rfl⟩
  obtain ⟨nd, hnd⟩ : ∃ n, D.length = n := ⟨_, rfl⟩
  rw [hn0, hn1, hn2, hn3, hn4] at CB a0 X0 HCR
  rw [hn0, hn1, hn3, hn4] at HCF
  rw [hn0] at CM
  rw [hn2, hn3, hn4] at HALL
  rw [hn3] at hb4 HDIN
  rw [hn2] at hq3
  rw [hn0, hn1, hn2, hn3, hn4]
  have HND := Lib.hid hnd
  have HN2 := Lib.hid hn2
  have HN3 := Lib.hid hn3
  have HN4 := Lib.hid hn4
  have hnd2 : nd ≤ 4000 := by omega
  clear hn0 hn1 hn2 hn3 hn4 hnd h hDl hq2 hq4 hq5
  obtain ⟨hn3b, -⟩ := hb4
  obtain ⟨Wb, hWb⟩ : ∃ Wb, w.alloc (.cells #[.int .u8 rest, .slice A1 n0 k1, .slice A2 n1 k2, .slice A3 n2 k3, .slice A4 n3 k4, .slice A5 n4 k5, .int .i8 lv, .int .u8 so, .int .u8 eo] 55) = Wb := ⟨_, rfl⟩
  rw [hWb] at X0 a0
  obtain ⟨u, hu⟩ : ∃ u, w.heap.size = u := ⟨_, rfl⟩
  rw [hu] at X0
  have HWB := Lib.hid hWb
  have HU := Lib.hid hu
  clear hWb
  have x0 := X0.cell 0
  have x1 := X0.cell 1
  have x2 := X0.cell 2
  have x3 := X0.cell 3
  have x4 := X0.cell 4
  have x5 := X0.cell 5
  have x6 := X0.cell 6
  have x7 := X0.cell 7
  have x8 := X0.cell 8
  have xl := X0.lt
  go_enter Try.func10, Try.ntmps10
  go_upto_region 1 with (fail)
  rw [HWB.out]
  clear hu
  go_wp2_with fail
  refine (CB _ a0).mono ?_
  rintro r1 w1 ⟨rfl, b1⟩
  have a1 := a0.trans b1
  have X1 := X0.aft b1
  clear x0 x1 x2 x3 x4 x5 x6 x7 x8 xl
  have x0 := X1.cell 0
  have x1 := X1.cell 1
  have x2 := X1.cell 2
  have x3 := X1.cell 3
  have x4 := X1.cell 4
  have x5 := X1.cell 5
  have x6 := X1.cell 6
  have x7 := X1.cell 7
  have x8 := X1.cell 8
  have xl := X1.lt
  go_wp2_with fail
  refine (CM _ a1).mono ?_
  rintro r2 w2 ⟨rfl, b2⟩
  have a2 := a1.trans b2
  have X2 := X1.aft b2
  clear x0 x1 x2 x3 x4 x5 x6 x7 x8 xl
  go_wp2_with fail
  refine (lives_ok _).mono ?_
  rintro r3 w3 ⟨rfl, b3⟩
  have a3 := a2.trans b3
  have X3 := X2.aft b3
  have x0 := X3.cell 0
  have x1 := X3.cell 1
  have x2 := X3.cell 2
  have x3 := X3.cell 3
  have x4 := X3.cell 4
  have x5 := X3.cell 5
  have x6 := X3.cell 6
  have x7 := X3.cell 7
  have x8 := X3.cell 8
  have xl := X3.lt
  go_wp2_with fail
  refine (HCF.out _ a3).mono ?_
  rintro r4 w4 ⟨va, rfl, BA, b4⟩
  have a4 := a3.trans b4
  have X4 := X3.aft b4
  clear x0 x1 x2 x3 x4 x5 x6 x7 x8 xl
  have x0 := X4.cell 0
  have x1 := X4.cell 1
  have x2 := X4.cell 2
  have x3 := X4.cell 3
  have x4 := X4.cell 4
  have x5 := X4.cell 5
  have x6 := X4.cell 6
  have x7 := X4.cell 7
  have x8 := X4.cell 8
  have xl := X4.lt
  go_wp2_with fail
  refine (HCR.out _ a4).mono ?_
  rintro r5 w5 ⟨vs, rfl, SO, b5⟩
  have a5 := a4.trans b5
  have X5 := X4.aft b5
  have BA5 := (BrsAt.below BA b5 (Nat.le_refl _))
  clear x0 x1 x2 x3 x4 x5 x6 x7 x8 xl
  clear X0 X1 X2 X3 X4 b1 b2 b3 b4 a1 a2 a3 CB CM HCF HCR BA
  obtain ⟨pv, cv, rfl, IP, IC, -⟩ := SO
  obtain ⟨qpl, qcs, qlv, qso, qeo⟩ := RS
  simp only [Sq.is]
  simp only at IP IC
  obtain ⟨pA, pc, rfl, -, -, IP⟩ := IP.val
  obtain ⟨cA, cc, rfl, -, -, IC⟩ := IC.val
  obtain ⟨qn, hqn⟩ : ∃ qn, qpl.length = qn := ⟨_, rfl⟩
  obtain ⟨qm, hqm⟩ : ∃ qm, qcs.length = qm := ⟨_, rfl⟩
  rw [hqn, hqm]
  have HQN := Lib.hid hqn
  have HQM := Lib.hid hqm
  clear hqn hqm
  have Z5 := Blk.new w5 35 #[.slice none 0 0, .slice none 0 0, .int .i8 0, .int .u8 0, .int .u8 0]
  obtain ⟨z0, z1, z2, z3, z4, zf, zl⟩ := Z5.c5
  have Y5 := Blk.new w5 35 #[.slice pA qn pc, .slice cA qm cc, .int .i8 qlv, .int .u8 qso, .int .u8 qeo]
  have X6 := X5.alloc (.cells #[.slice pA qn pc, .slice cA qm cc, .int .i8 qlv, .int .u8 qso, .int .u8 qeo] 35)
  have a6 := a5.alloc (.cells #[.slice pA qn pc, .slice cA qm cc, .int .i8 qlv, .int .u8 qso, .int .u8 qeo] 35)
  have IP6 := IP.alloc (.cells #[.slice pA qn pc, .slice cA qm cc, .int .i8 qlv, .int .u8 qso, .int .u8 qeo] 35)
  have IC6 := IC.alloc (.cells #[.slice pA qn pc, .slice cA qm cc, .int .i8 qlv, .int .u8 qso, .int .u8 qeo] 35)
  have BA6 : BrsAt (w5.alloc (.cells #[.slice pA qn pc, .slice cA qm cc, .int .i8 qlv, .int .u8 qso, .int .u8 qeo] 35)) w3.heap.size va D := BA5.below ((Aft.refl w5).alloc _) (Nat.le_refl _)
  go_upto_region 5 with (fail)
  obtain ⟨W6, hW6⟩ : ∃ W6, w5.alloc (.cells #[.slice pA qn pc, .slice cA qm cc, .int .i8 qlv, .int .u8 qso, .int .u8 qeo] 35) = W6 := ⟨_, rfl⟩
  rw [hW6] at X6 a6 IP6 IC6 BA6
  rw [hW6]
  obtain ⟨y, hy⟩ : ∃ y, w5.heap.size = y := ⟨_, rfl⟩
  have h56 : w5.heap.size ≤ W6.heap.size := by rw [← hW6]; simp
  have hyl : y < W6.heap.size := by rw [← hW6, ← hy]; simp
  have hY6 : Blk W6 y 35 #[.slice pA qn pc, .slice cA qm cc, .int .i8 qlv, .int .u8 qso, .int .u8 qeo] := by rw [← hW6, ← hy]; exact Y5
  rw [hy]
  have huy : u < y := by have := X5.lt; omega
  clear z0 z1 z2 z3 z4 zf zl Z5 Y5 IP IC BA5 X5 hW6 hy a4 a5 b5
  by_cases hEz : E = 0
  case neg =>
    have e1 : (E != 0) = true := by simpa using hEz
    have e2 : (E == 0) = false := by simpa using hEz
    rcases HEM.out with hEM | hEM
    · subst hEM
      go_wp2
      go_ret
      exact ⟨rfl, a6⟩
    · subst hEM
      by_cases hM2 : M = 2
      · subst hM2
        go_wp2
        go_ret
        exact ⟨rfl, a6⟩
      · have e3 : (M == 2) = false := by simpa using hM2
        go_wp2
        go_ret
        exact ⟨rfl, a6⟩
  obtain ⟨hl43, hn3p, hin, C, hRS, hL⟩ := HALL.out hEz
  simp only [Sq.mk.injEq] at hRS
  obtain ⟨e1, e2, e3, e4, e5⟩ := hRS
  have e1 := e1.symm
  have e2 := e2.symm
  have e3 := e3.symm
  have e4 := e4.symm
  have e5 := e5.symm
  subst e1 e2 e3 e4 e5
  have hqn : n3 = qn := by rw [← HN3.out, HQN.out]
  have hqm : n3 = qm := by rw [← HN3.out, ← HQM.out]; exact hL.len.symm
  subst hqn hqm hl43
  have hM0 := HE0.out hEz
  subst hM0 hEz
  have HIN := Lib.hid hin
  have HL := Lib.hid hL
  have hCl : C.length = n3 := HQM.out
  have HCL := Lib.hid hCl
  clear hin hL hCl HALL HE0 HEM
  obtain ⟨aA, ac, hva, RA, -⟩ := BA6.form
  rw [HND.out] at hva
  subst hva
  clear BA6
  obtain ⟨y0, y1, y2, y3, y4, yf, yl⟩ := hY6.c5
  have x0 := X6.cell 0
  have x1 := X6.cell 1
  have x2 := X6.cell 2
  have x3 := X6.cell 3
  have x4 := X6.cell 4
  have x5 := X6.cell 5
  have x6 := X6.cell 6
  have x7 := X6.cell 7
  have x8 := X6.cell 8
  have xl := X6.lt
  go_wp2_with (at_make; go_must (refine wpList_mkB W6.heap.size rfl rfl n3 rfl rfl rfl rfl ?_ ?_ ?_ ?_))
  · omega
  · unfold maxLen; omega
  intro w7 BS g7
  have t7 : Aft W6 w7 := Aft.of_grown g7
  have a7 := a6.trans t7
  have X7 := X6.aft t7
  have Y7 := hY6.aft t7
  have R7 : RdR brC 2 w7 W6.heap.size aA D := RA.below t7 (.inl (Nat.le_refl _))
  have IP7 : RdInts w7 W6.heap.size .i64 pA pl := (IP6.more (by omega)).below t7 (.inl (Nat.le_refl _))
  have IC7 : RdInts w7 W6.heap.size .u8 cA C := (IC6.more (by omega)).below t7 (.inl (Nat.le_refl _))
  have hw6 : w.heap.size ≤ W6.heap.size := a6.le
  have p7 := (r4.aft a7).more hw6
  have c7 := (r5.aft a7).more hw6
  have f7 := (r3.aft a7).more hw6
  obtain ⟨sg, hsg⟩ : ∃ sg, W6.heap.size = sg := ⟨_, rfl⟩
  rw [hsg] at BS R7 IP7 IC7 hyl hw6 p7 c7 f7
  rw [hsg]
  have hus : u < sg := by omega
  clear x0 x1 x2 x3 x4 x5 x6 x7 x8 xl
  clear y0 y1 y2 y3 y4 yf yl g7 t7 X6 hY6 RA IP6 IC6 a6 r3 r4 r5 hsg
  go_wp2
  go_loopg [8] nd (fun gk iv wr => ∃ (i : Nat) (sn : List Bool), i + gk = nd ∧ iv = .int .i64 i ∧ sn.length = n3 ∧ Bools wr sg (.slice (some ⟨sg, 0, none⟩) n3 n3) sn ∧ (∀ q, q < n3 → sn.getD q false = endB (D.take i) q) ∧ Frm (fun j => j = sg) w7 wr)
  case atStart => exact ⟨0, _, by omega, rfl, List.length_replicate, BS, (fun q h => by rw [List.getD_eq_getElem?_getD, List.getElem?_replicate, if_pos h]; rfl), Frm.refl _ _⟩
  case round =>
    obtain ⟨i, sn, hi, rfl, hsn, B1, hends, FF⟩ := hrel
    have HI := Lib.hid hi
    have HSN := Lib.hid hsn
    have HSE := Lib.hid hends
    clear hi hsn hends BS
    by_cases hlt : i < nd
    · have hD : i < D.length := by have := HND.out; omega
      have R8 : RdR brC 2 wr sg aA D := Reads.frm R7 FF (fun k hk _ e => by have e : k = sg := e; omega)
      obtain ⟨lb, lo, rfl, l1, l2, u0, u1⟩ := R8.pair hD
      obtain ⟨e1, e2, e3⟩ := HDIN.out _ (getD_mem hD)
      have hnx := endB_take hD
      obtain ⟨x, hx⟩ : ∃ x, D.getD i (0, 0) = x := ⟨_, rfl⟩
      rw [hx] at u0 u1 e1 e2 e3 hnx
      obtain ⟨a, ha⟩ : ∃ a : Nat, x.1 = a := ⟨x.1.toNat, by omega⟩
      obtain ⟨b, hb⟩ : ∃ b : Nat, x.2 = b := ⟨x.2.toNat, by omega⟩
      rw [ha] at u0 e1 e2 hnx
      rw [hb] at u1 e2 e3 hnx
      have hbn : b < n3 := by omega
      have han : a < n3 := by omega
      obtain ⟨_, hsz, hsf, hsc⟩ := B1.at_
      have sc0 := hsc a (by have := HSN.out; omega)
      have sc1 := hsc b (by have := HSN.out; omega)
      have hab : a ≠ b := by omega
      have BT := (B1.set a true).set b true
      have FT : Frm (fun j => j = sg) w7 ((wr.setCell ⟨sg, a, none⟩ (.bool true)).setCell ⟨sg, b, none⟩ (.bool true)) := Frm.set (F := fun j => j = sg) (b := sg) (j := b) (Frm.set (F := fun j => j = sg) (b := sg) (j := a) FF rfl _) rfl _
      have hls : lb ≠ sg := by omega
      have hnew : ∀ q, q < n3 → ((sn.set a true).set b true).getD q false = endB (D.take (i + 1)) q := by
        intro q hq
        rw [set2_get (by have := HSN.out; omega) (by have := HSN.out; omega), hnx, HSE.out q hq]
        simp [Int.ofNat_inj]
      have HNEW := Lib.hid hnew
      have hsl : ((sn.set a true).set b true).length = n3 := by rw [List.length_set, List.length_set]; exact HSN.out
      have HSL := Lib.hid hsl
      clear hnx hx ha hb hsc hnew hsl e1 e2 e3 hD R8
      go_wp2
      go_roundg (nd - (i + 1))
      case rel => exact ⟨i + 1, _, by have := HI.out; omega, by go_num, HSL.out, BT, HNEW.out, FT⟩
      case measure => have := HI.out; omega
    · have hin : i = nd := by have := HI.out; omega
      subst hin
      have hEN : ∀ q, q < n3 → sn.getD q false = endB D q := by
        intro q hq
        rw [HSE.out q hq, List.take_of_length_le (by have := HND.out; omega)]
      have HEN := Lib.hid hEN
      clear hEN HSE
      have a8 : Aft w wr := Below.trans a7 (FF.below a7.le (fun k hk e => by have e : k = sg := e; omega))
      have X8 := X7.frm FF (by omega)
      have Y8 := Y7.frm FF (by omega)
      have IP8 : RdInts wr sg .i64 pA pl := Reads.frm IP7 FF (fun k hk _ e => by have e : k = sg := e; omega)
      have IC8 : RdInts wr sg .u8 cA C := Reads.frm IC7 FF (fun k hk _ e => by have e : k = sg := e; omega)
      have p8 : RdInts wr sg .i64 A4 pl := Reads.frm p7 FF (fun k hk _ e => by have e : k = sg := e; omega)
      have c8 : RdInts wr sg .u8 A5 cl := Reads.frm c7 FF (fun k hk _ e => by have e : k = sg := e; omega)
      have f8 : RdInts wr sg .u8 A3 fs := Reads.frm f7 FF (fun k hk _ e => by have e : k = sg := e; omega)
      obtain ⟨_, hsz, hsf, hsc⟩ := B1.at_
      have HSC := Lib.hid hsc
      clear hsc FF X7 Y7 IP7 IC7 p7 c7 f7 R7 a7 B1 hlt
      have x0 := X8.cell 0
      have x1 := X8.cell 1
      have x2 := X8.cell 2
      have x3 := X8.cell 3
      have x4 := X8.cell 4
      have x5 := X8.cell 5
      have x6 := X8.cell 6
      have x7 := X8.cell 7
      have x8 := X8.cell 8
      have xl := X8.lt
      obtain ⟨y0, y1, y2, y3, y4, yf, yl⟩ := Y8.c5
      obtain ⟨W8, rfl⟩ : ∃ W8, W8 = wr := ⟨_, rfl⟩
      go_wp2
      go_loopg [9, 10] n3 (fun gk sv iv wr => ∃ i : Nat, i + gk = n3 ∧ iv = .int .i64 i ∧ sv = .bool (strT cl i) ∧ wr = W8)
      case atStart => exact ⟨0, by omega, rfl, rfl, rfl⟩
      case round =>
        obtain ⟨i, hi, rfl, rfl, rfl⟩ := hrel
        have HI2 := Lib.hid hi
        clear hi
        by_cases hlt : i < n3
        · obtain ⟨cb, co, rfl, c1, c2, ca⟩ := c8.at_ (i := i) (by have := HN4.out; omega)
          obtain ⟨c, hc⟩ : ∃ c, cl.getD i 0 = c := ⟨_, rfl⟩
          rw [hc] at ca
          have hst : strT cl (i + 1) = (strT cl i || isStr c) := by rw [← hc]; rfl
          obtain ⟨st, hst2⟩ : ∃ st, strT cl i = st := ⟨_, rfl⟩
          rw [hst2] at hst
          rw [hst2]
          have HST := Lib.hid hst
          clear hst hst2 hc
          cases st
          case true =>
            go_wp2
            go_roundg (n3 - (i + 1))
            case rel => exact ⟨i + 1, by have := HI2.out; omega, by go_num, by rw [HST.out]; rfl, rfl⟩
            case measure => have := HI2.out; omega
          case false =>
            by_cases g1 : c = 1
            · subst g1
              go_wp2
              go_roundg (n3 - (i + 1))
              case rel => exact ⟨i + 1, by have := HI2.out; omega, by go_num, by rw [HST.out]; rfl, rfl⟩
              case measure => have := HI2.out; omega
            have q1 : (c == 1) = false := by simpa using g1
            by_cases g2 : c = 2
            · subst g2
              go_wp2
              go_roundg (n3 - (i + 1))
              case rel => exact ⟨i + 1, by have := HI2.out; omega, by go_num, by rw [HST.out]; rfl, rfl⟩
              case measure => have := HI2.out; omega
            have q2 : (c == 2) = false := by simpa using g2
            by_cases g3 : c = 3
            · subst g3
              go_wp2
              go_roundg (n3 - (i + 1))
              case rel => exact ⟨i + 1, by have := HI2.out; omega, by go_num, by rw [HST.out]; rfl, rfl⟩
              case measure => have := HI2.out; omega
            have q3 : (c == 3) = false := by simpa using g3
            by_cases g4 : c = 4
            · subst g4
              go_wp2
              go_roundg (n3 - (i + 1))
              case rel => exact ⟨i + 1, by have := HI2.out; omega, by go_num, by rw [HST.out]; rfl, rfl⟩
              case measure => have := HI2.out; omega
            have q4 : (c == 4) = false := by simpa using g4
            by_cases g7 : c = 7
            · subst g7
              go_wp2
              go_roundg (n3 - (i + 1))
              case rel => exact ⟨i + 1, by have := HI2.out; omega, by go_num, by rw [HST.out]; rfl, rfl⟩
              case measure => have := HI2.out; omega
            have q7 : (c == 7) = false := by simpa using g7
            go_wp2
            go_roundg (n3 - (i + 1))
            case rel => exact ⟨i + 1, by have := HI2.out; omega, by go_num, by rw [HST.out]; unfold isStr; simp [g1, g2, g3, g4, g7], rfl⟩
            case measure => have := HI2.out; omega
        · have hin : i = n3 := by have := HI2.out; omega
          subst hin
          obtain ⟨st, hst⟩ : ∃ st, strT cl i = st := ⟨_, rfl⟩
          rw [hst]
          have HST := Lib.hid hst
          clear hst hlt
          obtain ⟨W8, rfl⟩ : ∃ W8, W8 = wr := ⟨_, rfl⟩
          have q1 : (lv != lv) = false := by simp
          have q2 : (so != so) = false := by simp
          have q3 : (eo != eo) = false := by simp
          go_wp2
          obtain ⟨n3, rfl⟩ : ∃ n3, n3 = i := ⟨_, rfl⟩
          go_loopg [12] n3 (fun gk iv wr => ∃ j d : Nat, j + gk = n3 ∧ iv = .int .i64 j ∧ wr = W8.drewN d)
          case atStart => exact ⟨0, 0, by omega, rfl, rfl⟩
          case round =>
            obtain ⟨i, d, hi, rfl, rfl⟩ := hrel
            have HI3 := Lib.hid hi
            clear hi
            by_cases hlt : i < n3
            · obtain ⟨pb, po, rfl, m1, m2, k1_⟩ := IP8.at_ (i := i) (by have := HN3.out; omega)
              obtain ⟨pb2, po2, rfl, m3, m4, k2_⟩ := p8.at_ (i := i) (by have := HN3.out; omega)
              obtain ⟨cb, co, rfl, m5, m6, k3_⟩ := IC8.at_ (i := i) (by have := HCL.out; omega)
              obtain ⟨cb2, co2, rfl, m7, m8, k4_⟩ := c8.at_ (i := i) (by have := HN4.out; omega)
              have hea := HL.out.each i (by have := HN3.out; simp only; omega)
              simp only at hea
              obtain ⟨z, hz⟩ : ∃ z, pl.getD i 0 = z := ⟨_, rfl⟩
              obtain ⟨zc, hzc⟩ : ∃ zc, C.getD i 0 = zc := ⟨_, rfl⟩
              obtain ⟨zo, hzo⟩ : ∃ zo, cl.getD i 0 = zo := ⟨_, rfl⟩
              rw [hz] at k1_ k2_
              rw [hzc] at k3_ hea
              rw [hzo] at k4_ hea
              have ez : (z != z) = false := by simp
              by_cases hco : zc = zo
              · have ec : (zc == zo) = true := by simpa using hco
                clear hea hz hzc hzo hco
                go_wp2
                go_quiet (fail)
                go_wp2
                go_quiet (fail)
                go_wp2
                go_roundg (n3 - (i + 1))
                case rel => exact ⟨i + 1, _, by have := HI3.out; omega, by go_num, rfl⟩
                case measure => have := HI3.out; omega
              have ec : (zc == zo) = false := by simpa using hco
              have hst1 : st = true := by
                rcases HL.out.str with h | h
                · rw [← HST.out, ← HN3.out]; exact h
                · exfalso; simp only at h; rw [← hzc, ← hzo, h] at hco; exact hco rfl
              subst hst1
              obtain ⟨hz12, hEk, hCk⟩ := hea.resolve_left hco
              obtain ⟨K0, hK0⟩ : ∃ K0, bk pl fs D i = K0 := ⟨_, rfl⟩
              rw [hK0] at hEk hCk
              have HK0 := Lib.hid hK0
              have HEK := Lib.hid hEk
              have HCK := Lib.hid hCk
              clear hK0 hz hzc hzo hco hEk hCk
              rcases hz12 with hz | hz
              · subst hz
                go_wp2
                go_quiet (fail)
                go_wp2
                go_quiet (fail)
                go_wp2
                go_loopg [13] i (fun gk kv wr => kv = .int .i64 gk ∧ bk pl fs D gk = K0 ∧ gk ≤ i ∧ ∃ d : Nat, wr = W8.drewN d)
                case atStart => exact ⟨rfl, HK0.out, Nat.le_refl _, _, rfl⟩
                case round =>
                  obtain ⟨rfl, hbk, hgi, d2, rfl⟩ := hrel
                  have hgn : gk < n3 := by omega
                  have eg := HSC.out gk (by have := HSN.out; omega)
                  rw [HEN.out gk hgn] at eg
                  by_cases hen : endB D gk = true
                  · have hK : gk = K0 := by rw [← hbk, bk_end hen]
                    rw [hen] at eg
                    obtain ⟨_, _, e8, _, _, kc⟩ := IC8.at_ (i := gk) (by have := HCL.out; omega)
                    cases e8
                    rw [hK, HCK.out, ← hK] at kc
                    clear hbk hK hen
                    rcases Nat.eq_zero_or_pos gk with hg0 | hg0
                    · subst hg0
                      rw [Nat.add_zero] at kc
                      go_wp2
                      go_quiet (fail)
                      go_wp2
                      go_quiet (fail)
                      go_wp2
                      go_roundg (n3 - (i + 1))
                      case rel => exact ⟨i + 1, _, by have := HI3.out; omega, by go_num, rfl⟩
                      case measure => have := HI3.out; omega
                    · have dg : decide ((0 : Int) < (gk : Int)) = true := by simp; omega
                      go_wp2
                      go_quiet (fail)
                      go_wp2
                      go_quiet (fail)
                      go_wp2
                      go_roundg (n3 - (i + 1))
                      case rel => exact ⟨i + 1, _, by have := HI3.out; omega, by go_num, rfl⟩
                      case measure => have := HI3.out; omega
                  · have hen' : endB D gk = false := by simpa using hen
                    have hne : gk ≠ K0 := fun e => by rw [e] at hen; exact hen HEK.out
                    have hns : nsm pl fs gk := by
                      rcases Classical.em (nsm pl fs gk) with h | h
                      · exact h
                      · exact absurd (by rw [← hbk, bk_not h]) hne
                    obtain ⟨m, rfl⟩ : ∃ m, gk = m + 1 := by
                      rcases gk with _ | m
                      · exact absurd hbk hne
                      · exact ⟨m, rfl⟩
                    rw [bk_go hen' hns] at hbk
                    rw [hen'] at eg
                    obtain ⟨_, _, e9, _, _, kp⟩ := p8.at_ (i := m + 1) (by have := HN3.out; omega)
                    cases e9
                    have hpi := HIN.out (m + 1) hgn
                    unfold nsm at hns
                    obtain ⟨qa, hqa⟩ : ∃ qa : Nat, pl.getD (m + 1) 0 = qa := ⟨(pl.getD (m + 1) 0).toNat, by omega⟩
                    rw [hqa] at kp hpi hns
                    rw [Int.toNat_natCast] at hns
                    have hqn : qa < n2 := by omega
                    obtain ⟨fb, fo, rfl, f1, f2, kf⟩ := f8.at_ (i := qa) (by have := HN2.out; omega)
                    rw [hns] at kf
                    have dg : decide ((0 : Int) < ((m + 1 : Nat) : Int)) = true := decide_eq_true (by omega)
                    have HBK := Lib.hid hbk
                    clear hbk hns hqa hen hen' hne hpi
                    go_wp2
                    go_quiet (fail)
                    go_wp2
                    go_roundg m
                    case rel => exact ⟨by go_num, HBK.out, by omega, _, rfl⟩
                    case measure => omega
              · subst hz
                go_wp2
                go_quiet (fail)
                go_wp2
                go_quiet (fail)
                go_wp2
                go_loopg [13] i (fun gk kv wr => kv = .int .i64 gk ∧ bk pl fs D gk = K0 ∧ gk ≤ i ∧ ∃ d : Nat, wr = W8.drewN d)
                case atStart => exact ⟨rfl, HK0.out, Nat.le_refl _, _, rfl⟩
                case round =>
                  obtain ⟨rfl, hbk, hgi, d2, rfl⟩ := hrel
                  have hgn : gk < n3 := by omega
                  have eg := HSC.out gk (by have := HSN.out; omega)
                  rw [HEN.out gk hgn] at eg
                  by_cases hen : endB D gk = true
                  · have hK : gk = K0 := by rw [← hbk, bk_end hen]
                    rw [hen] at eg
                    obtain ⟨_, _, e8, _, _, kc⟩ := IC8.at_ (i := gk) (by have := HCL.out; omega)
                    cases e8
                    rw [hK, HCK.out, ← hK] at kc
                    clear hbk hK hen
                    rcases Nat.eq_zero_or_pos gk with hg0 | hg0
                    · subst hg0
                      rw [Nat.add_zero] at kc
                      go_wp2
                      go_quiet (fail)
                      go_wp2
                      go_quiet (fail)
                      go_wp2
                      go_roundg (n3 - (i + 1))
                      case rel => exact ⟨i + 1, _, by have := HI3.out; omega, by go_num, rfl⟩
                      case measure => have := HI3.out; omega
                    · have dg : decide ((0 : Int) < (gk : Int)) = true := by simp; omega
                      go_wp2
                      go_quiet (fail)
                      go_wp2
                      go_quiet (fail)
                      go_wp2
                      go_roundg (n3 - (i + 1))
                      case rel => exact ⟨i + 1, _, by have := HI3.out; omega, by go_num, rfl⟩
                      case measure => have := HI3.out; omega
                  · have hen' : endB D gk = false := by simpa using hen
                    have hne : gk ≠ K0 := fun e => by rw [e] at hen; exact hen HEK.out
                    have hns : nsm pl fs gk := by
                      rcases Classical.em (nsm pl fs gk) with h | h
                      · exact h
                      · exact absurd (by rw [← hbk, bk_not h]) hne
                    obtain ⟨m, rfl⟩ : ∃ m, gk = m + 1 := by
                      rcases gk with _ | m
                      · exact absurd hbk hne
                      · exact ⟨m, rfl⟩
                    rw [bk_go hen' hns] at hbk
                    rw [hen'] at eg
                    obtain ⟨_, _, e9, _, _, kp⟩ := p8.at_ (i := m + 1) (by have := HN3.out; omega)
                    cases e9
                    have hpi := HIN.out (m + 1) hgn
                    unfold nsm at hns
                    obtain ⟨qa, hqa⟩ : ∃ qa : Nat, pl.getD (m + 1) 0 = qa := ⟨(pl.getD (m + 1) 0).toNat, by omega⟩
                    rw [hqa] at kp hpi hns
                    rw [Int.toNat_natCast] at hns
                    have hqn : qa < n2 := by omega
                    obtain ⟨fb, fo, rfl, f1, f2, kf⟩ := f8.at_ (i := qa) (by have := HN2.out; omega)
                    rw [hns] at kf
                    have dg : decide ((0 : Int) < ((m + 1 : Nat) : Int)) = true := decide_eq_true (by omega)
                    have HBK := Lib.hid hbk
                    clear hbk hns hqa hen hen' hne hpi
                    go_wp2
                    go_quiet (fail)
                    go_wp2
                    go_roundg m
                    case rel => exact ⟨by go_num, HBK.out, by omega, _, rfl⟩
                    case measure => omega
            · have hin : i = n3 := by have := HI3.out; omega
              subst hin
              go_wp2
              go_ret
              exact ⟨rfl, a8.drewN _⟩
end Go.Proofs.Ytpdackbcnbhppaa
