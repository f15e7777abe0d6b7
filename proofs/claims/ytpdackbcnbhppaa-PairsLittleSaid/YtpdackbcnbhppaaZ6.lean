/- Brackets replaced by others of the same key and side: what is found is the same. -/
import Derived.Test.YtpdackbcnbhppaaZ4
namespace Go.Proofs.Ytpdackbcnbhppaa
open Go.RowKit
attribute [local go_sem] Oper.semAt_some

theorem mk1_key (ch : List Chr) (rs : List Int) (s : Sq) (i : Nat) : mk1 ch rs s i = if s.cs.getD i 0 = 14 then (if (keyL ch (rs.getD (s.pl.getD i 0).toNat 0)).2 = 1 then [⟨i, 1, (keyL ch (rs.getD (s.pl.getD i 0).toNat 0)).1⟩] else if (keyL ch (rs.getD (s.pl.getD i 0).toNat 0)).2 = 2 then [⟨i, 2, (keyL ch (rs.getD (s.pl.getD i 0).toNat 0)).1⟩] else []) else [] := by
  unfold mk1 keyL
  simp only
  by_cases h1 : (brL ch (runC (rs.getD (s.pl.getD i 0).toNat 0))).2 = 1
  · simp only [if_pos h1]
    rfl
  · simp only [if_neg h1]
theorem mkT_keys {ch : List Chr} {rs rs' : List Int} {s : Sq} (h : ∀ j, keyL ch (rs'.getD j 0) = keyL ch (rs.getD j 0)) : ∀ k, mkT ch rs' s k = mkT ch rs s k
  | 0 => rfl
  | k + 1 => by rw [mkT_succ, mkT_succ, mkT_keys h k, mk1_key, mk1_key, h]
theorem find_keys {ch : List Chr} {rs rs' : List Int} {s : Sq} (hl : rs'.length = rs.length) (h : ∀ j, keyL ch (rs'.getD j 0) = keyL ch (rs.getD j 0)) : findF ch rs' s = findF ch rs s := by
  unfold findF fdT
  rw [hl, mkT_keys h]
theorem keys_set {ch : List Chr} {rs l : List Int} (h : ∀ j, keyL ch (l.getD j 0) = keyL ch (rs.getD j 0)) {i : Nat} {c : Int} (hc : keyL ch c = keyL ch (l.getD i 0)) : ∀ j, keyL ch ((l.set i c).getD j 0) = keyL ch (rs.getD j 0) := by
  intro j
  by_cases hj : j = i
  · subst hj
    by_cases hl : j < l.length
    · rw [List.getD_eq_getElem?_getD, List.getElem?_set_self hl, ← h j, ← hc]; rfl
    · rw [List.set_eq_of_length_le (by omega)]; exact h j
  · rw [List.getD_eq_getElem?_getD, List.getElem?_set_ne (Ne.symm hj), ← List.getD_eq_getElem?_getD]; exact h j
/-- Booleans that are read. -/
def RdB (W : World) (B : Nat) (A : Option Addr) (l : List Bool) : Prop := Reads W B 1 A l.length (l.map Value.bool)
theorem RdB.at_ {W : World} {B : Nat} {A : Option Addr} {l : List Bool} (h : RdB W B A l) {i : Nat} (hi : i < l.length) : ∃ b off, A = some ⟨b, off, none⟩ ∧ b < W.heap.size ∧ W.cell? ⟨b, off + i, none⟩ = some (.bool (l.getD i false)) := by
  obtain ⟨b, off, e, _, h2, h3⟩ := h.2 (by omega)
  exact ⟨b, off, e, h2, h3 i _ (by rw [List.getElem?_map, List.getElem?_eq_getElem hi, List.getD_eq_getElem?_getD, List.getElem?_eq_getElem hi]; rfl)⟩
theorem RdB.frmA {F : Nat → Prop} {W W' : World} {B : Nat} {A : Option Addr} {l : List Bool} (h : RdB W B A l) (hf : Frm F W W') (hF : ∀ k, k < B → k < W.heap.size → ¬ F k) : RdB W' B A l := Reads.frm h hf hF

set_option maxRecDepth 100000 in
set_option maxHeartbeats 4000000 in
theorem twins_walk {w : World} {cs : Array Value} {x : InL} {pv rv fv av bv : Value} (h : InIs w w.heap.size cs x pv rv fv av bv) {wA : Option Addr} {wn wc : Nat} {wl : List Bool} (hwn : wl.length = wn) (hW : RdB w w.heap.size wA wl) :
    Calls Try.prog 12 #[.agg cs, .slice wA wn wc] w fun r w' => r = .returned (.bool true) ∧ Below w.heap.size w w' := by
  have hcs := h.hcs
  have HWN := Lib.hid hwn
  clear hwn
  have CB : ∀ W, Aft w W → Calls Try.prog 25 #[.agg cs] W fun r w' => r = .returned (.bool (bynd x)) ∧ Below W.heap.size W w' := fun W hA => beyond_ok (h.below hA (.inl (Nat.le_refl _)))
  have CM : ∀ W, Aft w W → Calls Try.prog 26 #[.agg #[.int .u8 x.rest, pv]] W fun r w' => r = .returned (.bool (mayP x.rest x.ch)) ∧ Below W.heap.size W w' := fun W hA => May_ok (h.props.below hA (.inl (Nat.le_refl _)))
  have hbin : bynd x = false → x.s.pl.length ≤ 4000 ∧ x.ch.length ≤ 4000 := by
    intro hb
    unfold bynd at hb
    simp only [Bool.or_eq_false_iff, decide_eq_false_iff_not] at hb
    omega
  subst hcs
  obtain ⟨by_, hby⟩ : ∃ z, bynd x = z := ⟨_, rfl⟩
  obtain ⟨mp, hmp⟩ : ∃ z, mayP x.rest x.ch = z := ⟨_, rfl⟩
  rw [hby] at CB hbin
  rw [hmp] at CM
  have a0 : Aft w (w.alloc (.cells #[.int .u8 x.rest, pv, rv, fv, av, bv, .int .i8 x.s.lv, .int .u8 x.s.so, .int .u8 x.s.eo] 55)) := (Aft.refl w).alloc _
  have X0 := Blk.new w 55 #[.int .u8 x.rest, pv, rv, fv, av, bv, .int .i8 x.s.lv, .int .u8 x.s.so, .int .u8 x.s.eo]
  obtain ⟨A1, k1, epv, r1⟩ := h.p
  obtain ⟨A2, k2, erv, r2⟩ := h.r
  obtain ⟨A3, k3, efv, r3⟩ := h.f
  obtain ⟨A4, k4, eav, r4⟩ := h.a
  obtain ⟨A5, k5, ebv, r5⟩ := h.b
  clear hmp hby
  cases by_
  case true =>
    clear hbin CM epv erv efv eav ebv
    have x0 := X0.cell 0
    have x1 := X0.cell 1
    have x2 := X0.cell 2
    have x3 := X0.cell 3
    have x4 := X0.cell 4
    have x5 := X0.cell 5
    have x6 := X0.cell 6
    have x7 := X0.cell 7
    have x8 := X0.cell 8
    have xl := X0.lt
    go_enter Try.func12, Try.ntmps12
    go_wp2_with (first
      | (go_at_call 25; refine (CB _ a0).mono ?_; rintro r1 w1 ⟨rfl, b1⟩; have a1 := a0.trans b1)
      | (go_at_call 27; refine (lives_ok _).mono ?_; rintro r2 w2 ⟨rfl, b2⟩))
    go_ret
    exact ⟨rfl, a1.trans b2⟩
  cases mp
  case false =>
    clear hbin epv erv efv eav ebv
    have x0 := X0.cell 0
    have x1 := X0.cell 1
    have x2 := X0.cell 2
    have x3 := X0.cell 3
    have x4 := X0.cell 4
    have x5 := X0.cell 5
    have x6 := X0.cell 6
    have x7 := X0.cell 7
    have x8 := X0.cell 8
    have xl := X0.lt
    go_enter Try.func12, Try.ntmps12
    go_wp2_with (first
      | (go_at_call 25
         refine (CB _ a0).mono ?_
         rintro r1 w1 ⟨rfl, b1⟩
         have a1 := a0.trans b1
         have X1 := X0.aft b1
         have z0 := X1.cell 0
         have z1 := X1.cell 1
         have z2 := X1.cell 2
         have z3 := X1.cell 3
         have z4 := X1.cell 4
         have z5 := X1.cell 5
         have z6 := X1.cell 6
         have z7 := X1.cell 7
         have z8 := X1.cell 8
         have zl := X1.lt)
      | (go_at_call 26; refine (CM _ a1).mono ?_; rintro r2 w2 ⟨rfl, b2⟩; have a2 := a1.trans b2)
      | (go_at_call 27; refine (lives_ok _).mono ?_; rintro r2 w3 ⟨rfl, b3⟩))
    go_ret
    exact ⟨rfl, a2.trans b3⟩
  have hb4 := hbin rfl
  clear hbin
  have hq2 := h.l2
  have hq3 := h.l3
  have hq4 := h.l4
  have hq5 := h.l5
  subst epv erv efv eav ebv
  have hq2 := h.l2
  have hP := h.props
  have hS := h.sq
  obtain ⟨M, hM⟩ : ∃ M, mayL x.rs.length x.s = M := ⟨_, rfl⟩
  obtain ⟨D, hD⟩ : ∃ D, findF x.ch x.rs x.s = D := ⟨_, rfl⟩
  have hDl : D.length ≤ 4000 := by have := findF_len (ch := x.ch) (rs := x.rs) (s := x.s); rw [hD] at this; omega
  have CF : ∀ W B A k (l : List Int), Aft w W → RdInts W B .i32 A l → l.length = x.rs.length → (∀ j, keyL x.ch (l.getD j 0) = keyL x.ch (x.rs.getD j 0)) → Calls Try.prog 29 #[.iface 52 (.agg #[.int .u8 x.rest, .slice A1 x.ch.length k1]), .slice A x.rs.length k, .agg (x.s.is (.slice A4 x.s.pl.length k4) (.slice A5 x.s.cs.length k5))] W fun r w' => ∃ v, r = .returned (.tuple #[v, .int .i64 M]) ∧ BrsAt w' W.heap.size v D ∧ Below W.heap.size W w' := by
    intro W B A k l hW hR hl hk
    have := PFind_ok (rc := k) (hP.below hW (.inl (Nat.le_refl _))) hR (hS.below hW (.inl (Nat.le_refl _))) (by omega) (by omega)
    rw [find_keys hl hk, hl, hM, hD] at this
    exact this
  have CKy : ∀ W (r : Int), Aft w W → Calls Try.prog 36 #[.agg #[.int .u8 x.rest, .slice A1 x.ch.length k1], .int .i32 r] W fun e w' => e = .returned (.tuple #[.int .i32 (keyL x.ch r).1, .int .u8 (keyL x.ch r).2]) ∧ Below W.heap.size W w' := fun W r hA => key_ok r (hP.below hA (.inl (Nat.le_refl _)))
  have CE : ∀ W B B' A A' c c', RdR brC 2 W B A D → RdR brC 2 W B' A' D → Calls Try.prog 31 #[.slice A D.length c, .slice A' D.length c'] W fun r w' => r = .returned (.bool true) ∧ ∃ m, w' = W.drewN m := by
    intro W B B' A A' c c' h1 h2
    have := sameB_ok (c := c) (c' := c') rfl rfl h1 h2 (by omega)
    have e : brEq D D = true := decide_eq_true rfl
    rw [e] at this
    exact this
  simp only [Sq.is] at CF
  have HCF := Lib.hid CF
  have HCK := Lib.hid CKy
  clear hM hD hP hS r3 r4 r5 CF CKy
  obtain ⟨rest, ch, rs, fs, ⟨pl, cl, lv, so, eo⟩⟩ := x
  simp only at *
  obtain ⟨n0, hn0⟩ : ∃ n, ch.length = n := ⟨_, rfl⟩
  obtain ⟨n1, hn1⟩ : ∃ n, rs.length = n := ⟨_, rfl⟩
  obtain ⟨n2, hn2⟩ : ∃ n, fs.length = n := ⟨_, rfl⟩
  obtain ⟨n3, hn3⟩ : ∃ n, pl.length = n := ⟨_, rfl⟩
  obtain ⟨n4, hn4⟩ : ∃ n, cl.length = n := ⟨_, rfl⟩
  obtain ⟨nd, hnd⟩ : ∃ n, D.length = n := ⟨_, rfl⟩
  rw [hn0, hn1, hn2, hn3, hn4] at CB a0 X0
  rw [hn0, hn1, hn3, hn4] at HCF
  rw [hn0] at CM HCK
  rw [hnd] at CE
  rw [hn1] at hq2
  rw [hn0, hn1, hn2, hn3, hn4]
  have HND := Lib.hid hnd
  have HN0 := Lib.hid hn0
  have HN1 := Lib.hid hn1
  have hn0b : n0 ≤ 4000 := by omega
  clear hn0 hn1 hn2 hn3 hn4 hnd hb4 h hDl
  obtain ⟨Wb, hWb⟩ : ∃ Wb, w.alloc (.cells #[.int .u8 rest, .slice A1 n0 k1, .slice A2 n1 k2, .slice A3 n2 k3, .slice A4 n3 k4, .slice A5 n4 k5, .int .i8 lv, .int .u8 so, .int .u8 eo] 55) = Wb := ⟨_, rfl⟩
  rw [hWb] at X0 a0
  obtain ⟨u, hu⟩ : ∃ u, w.heap.size = u := ⟨_, rfl⟩
  rw [hu] at X0
  have HWB := Lib.hid hWb
  have HU := Lib.hid hu
  clear hWb
  have x0 := X0.cell 0
  have x1 := X0.cell 1
  have x2 := X0.cell 2
  have x3 := X0.cell 3
  have x4 := X0.cell 4
  have x5 := X0.cell 5
  have x6 := X0.cell 6
  have x7 := X0.cell 7
  have x8 := X0.cell 8
  have xl := X0.lt
  go_enter Try.func12, Try.ntmps12
  go_upto_region 1 with (fail)
  rw [HWB.out]
  clear hu
  go_wp2_with fail
  refine (CB _ a0).mono ?_
  rintro r1 w1 ⟨rfl, b1⟩
  have a1 := a0.trans b1
  have X1 := X0.aft b1
  clear x0 x1 x2 x3 x4 x5 x6 x7 x8 xl
  have x0 := X1.cell 0
  have x1 := X1.cell 1
  have x2 := X1.cell 2
  have x3 := X1.cell 3
  have x4 := X1.cell 4
  have x5 := X1.cell 5
  have x6 := X1.cell 6
  have x7 := X1.cell 7
  have x8 := X1.cell 8
  have xl := X1.lt
  go_wp2_with fail
  refine (CM _ a1).mono ?_
  rintro r2 w2 ⟨rfl, b2⟩
  have a2 := a1.trans b2
  have X2 := X1.aft b2
  clear x0 x1 x2 x3 x4 x5 x6 x7 x8 xl
  go_wp2_with fail
  refine (lives_ok _).mono ?_
  rintro r3 w3 ⟨rfl, b3⟩
  have a3 := a2.trans b3
  have X3 := X2.aft b3
  have x0 := X3.cell 0
  have x1 := X3.cell 1
  have x2 := X3.cell 2
  have x3 := X3.cell 3
  have x4 := X3.cell 4
  have x5 := X3.cell 5
  have x6 := X3.cell 6
  have x7 := X3.cell 7
  have x8 := X3.cell 8
  have xl := X3.lt
  have rr := r2.aft a3
  go_wp2_with (at_builtin; go_must (refine wpList_appIs ei53 rfl rfl rfl (Ints.nil _ w3.heap.size 21 .i32) HN1.out.symm rfl rr ?_ ?_ ?_ ?_))
  · have := HN1.out; simp; unfold maxLen; omega
  · have := HN1.out; simp; omega
  · exact Nat.le_refl _
  intro vl w4 I4 g4 hv4
  have a34 : Aft w3 w4 := Aft.of_grown g4
  have a4 := a3.trans a34
  have X4 := X3.aft a34
  have hus := X3.lt
  have hus := X3.lt
  obtain ⟨lA, lc, hvl, _, _, _⟩ := I4.val
  subst hvl
  rw [HN1.out] at I4
  rw [HN1.out]
  have r24 := r2.aft a4
  clear x0 x1 x2 x3 x4 x5 x6 x7 x8 xl
  clear g4 hv4 rr X0 X1 X2 X3 b1 b2 b3 a1 a2 CB CM r2
  have hs3 := a3.le
  have hs34 := a34.le
  have hul := X4.lt
  obtain ⟨s3, hs3'⟩ : ∃ s, w3.heap.size = s := ⟨_, rfl⟩
  rw [hs3'] at I4 hs3 hs34 hus
  clear hs3' a34 a3
  have hIL : ∀ j, (Value.slice lA n1 lc).ownBlock = some j → s3 ≤ j ∧ j < w4.heap.size := I4.lt
  have HIL := Lib.hid hIL
  clear hIL
  go_wp2
  go_loopg [6] n1 (fun gk iv wr => ∃ (i : Nat) (l : List Int), i + gk = n1 ∧ iv = .int .i64 i ∧ l.length = n1 ∧ Ints wr s3 21 .i32 (.slice lA n1 lc) l ∧ (∀ j, keyL ch (l.getD j 0) = keyL ch (rs.getD j 0)) ∧ Frm (fun j => (Value.slice lA n1 lc).ownBlock = some j) w4 wr)
  case atStart => exact ⟨0, rs, by omega, rfl, HN1.out, I4, fun _ => rfl, Frm.refl _ _⟩
  case round =>
    obtain ⟨i, l, hi, rfl, hl, I5, hkl, FF⟩ := hrel
    have HI := Lib.hid hi
    have HL := Lib.hid hl
    have HKL := Lib.hid hkl
    clear hi hl hkl I4
    have X5 := X4.frm FF (fun e => by have := (HIL.out _ e).1; omega)
    have a5 : Aft w wr := Below.trans a4 (FF.below a4.le (fun k hk e => by have := (HIL.out k e).1; omega))
    have x0 := X5.cell 0
    have x1 := X5.cell 1
    have x2 := X5.cell 2
    have x3 := X5.cell 3
    have x4 := X5.cell 4
    have x5 := X5.cell 5
    have x6 := X5.cell 6
    have x7 := X5.cell 7
    have x8 := X5.cell 8
    have xl := X5.lt
    by_cases hlt : i < n1 ∧ i < wn
    · obtain ⟨hl1, hl2⟩ := hlt
      obtain ⟨wb, wo, rfl, wlt, wcell⟩ := (show RdB wr w.heap.size wA wl from Reads.below hW a5 (.inr (Nat.le_refl _))).at_ (i := i) (by have := HWN.out; omega)
      obtain ⟨bt, hbt⟩ : ∃ bt, wl.getD i false = bt := ⟨_, rfl⟩
      rw [hbt] at wcell
      clear hbt
      cases bt
      · go_wp2
        go_roundg (n1 - (i + 1))
        case rel => exact ⟨i + 1, l, by have := HI.out; omega, by go_num, HL.out, I5, HKL.out, FF⟩
        case measure => have := HI.out; omega
      · have hsome : ∃ g, lA = some ⟨g, 0, none⟩ := by
          obtain ⟨g, cap, e⟩ := I5.form (by have := HL.out; omega)
          injection e with e1
          exact ⟨g, e1⟩
        obtain ⟨g, rfl⟩ := hsome
        obtain ⟨-, hcc, -, -, hgs, hgf, hgc⟩ := I5.at_
        have hgi := hgc i (by have := HL.out; omega)
        obtain ⟨r, hr⟩ : ∃ r, l.getD i 0 = r := ⟨_, rfl⟩
        rw [hr] at hgi
        have HR := Lib.hid hr
        have CK := fun W (hA : Aft wr W) => HCK.out W r (a5.trans hA)
        obtain ⟨kk, hkk⟩ : ∃ kk, keyL ch r = kk := ⟨_, rfl⟩
        rw [hkk] at CK
        have HKK := Lib.hid hkk
        have keep : ∀ W, Aft wr W → W.cell? ⟨u, 0, none⟩ = some (.int .u8 rest) ∧ W.cell? ⟨u, 1, none⟩ = some (.slice A1 n0 k1) ∧ W.cell? ⟨g, i, none⟩ = some (.int .i32 r) := by
          intro W hA
          obtain ⟨kc, -⟩ := bcell hA
          rw [kc _ _ xl, kc _ _ xl, kc _ _ hgs]
          exact ⟨x0, x1, hgi⟩
        have KEEP := Lib.hid keep
        obtain ⟨k1_, k2_⟩ := kk
        simp only at CK
        clear hr hkk keep hgc hcc
        go_wp2
        refine wpIn_wide.1 (wpIn_region_vars (d := 0) (c := 6) (av := []) (vars := []) (K := [(0, 0), (0, 0), (0, 0), (0, 0), (0, 0), (0, 0), (1, 0), (0, 0), (0, 0), (0, 0), (0, 0), (0, 0)])
          (U := [none, none, none, none, none, none, some 6, some 6, some 6, some 6, some 6, some 6]) (E := [])
          (vs := [.inl (.pointer (some ⟨u, 0, none⟩)), .inl (.agg #[.int .u8 rest, .slice A1 n0 k1]), .inl (.slice (some ⟨g, 0, none⟩) n1 lc), .inl (.int .i64 i), .inl (.pointer (some ⟨g, i, none⟩)), .inl (.int .i32 r),
            .inr (6, id), .inr (6, id), .inr (6, extV 0), .inr (6, extV 1), .inr (6, extV 0), .inr (6, extV 1)])
          (R := fun r => r = .tuple #[.int .i32 k1_, .int .u8 k2_]) (T := fun _ _ => True) (by kernel_rfl) (by kernel_rfl) rfl rfl (by kernel_rfl) (by kernel_rfl) ?_ ?_)
        · simp only [List.map_cons, List.map_nil, valV, id, putAll, Act.put, List.setIfInBounds_toArray, List.set_cons_zero, List.set_cons_succ]
          refine ⟨?_, ?_, ?_, ?_, ?_, ?_, ?_, ?_, ?_, ?_, ?_, ?_, trivial⟩
          all_goals first
            | (intro ρ W hA _; obtain ⟨q0, q1, q2⟩ := KEEP.out W hA; simp only [valV, id]; go_simp; done)
            | (intro ρ W hA hu; have e : ρ 6 = .tuple #[.int .i32 k1_, .int .u8 k2_] := hu rfl; simp only [valV, e, extV_20, extV_21]; go_simp; done)
            | skip
          refine ⟨fun _ => rfl, fun ρ W hA => ⟨36, #[.agg #[.int .u8 rest, .slice A1 n0 k1], .int .i32 r], ?_, ?_⟩⟩
          · go_simp
          · refine (CK W hA).mono ?_
            rintro r w9 ⟨rfl, b9⟩
            exact ⟨_, rfl, rfl, b9, fun _ _ => trivial⟩
        · intro ρ W hA hR _ _ _
          have hR : ρ 6 = .tuple #[.int .i32 k1_, .int .u8 k2_] := hR
          simp only [List.map_cons, List.map_nil, valV, id, putAll, Act.put, List.setIfInBounds_toArray, List.set_cons_zero, List.set_cons_succ, hR, extV_20, extV_21]
          have I6 := I5.aft hA
          have F6 : Frm (fun j => (Value.slice (some ⟨g, 0, none⟩) n1 lc).ownBlock = some j) w4 W := FF.trans (Frm.of_below (F := fun j => (Value.slice (some ⟨g, 0, none⟩) n1 lc).ownBlock = some j) hA) (fun _ _ h => h)
          clear hR KEEP CK I5 FF X5 a5 x0 x1 x2 x3 x4 x5 x6 x7 x8 xl wcell wlt hgf hgi hA
          by_cases hk0 : k2_ = 0
          · have e1 : (k2_ == 0) = true := by simpa using hk0
            go_wp2
            go_roundg (n1 - (i + 1))
            case rel => exact ⟨i + 1, l, by have := HI.out; omega, by go_num, HL.out, I6, HKL.out, F6⟩
            case measure => have := HI.out; omega
          · have e1 : (k2_ == 0) = false := by simpa using hk0
            obtain ⟨W00, rfl⟩ : ∃ W00, W00 = wr := ⟨_, rfl⟩
            go_wp2
            go_loopg [9] n0 (fun gk nv wr => ∃ (q : Nat) (l' : List Int), q + gk = n0 ∧ nv = .int .i64 q ∧ l'.length = n1 ∧ Ints wr s3 21 .i32 (.slice (some ⟨g, 0, none⟩) n1 lc) l' ∧ (∀ j, keyL ch (l'.getD j 0) = keyL ch (rs.getD j 0)) ∧ Frm (fun j => (Value.slice (some ⟨g, 0, none⟩) n1 lc).ownBlock = some j) w4 wr)
            case atStart => exact ⟨0, l, by omega, rfl, HL.out, I6, HKL.out, F6⟩
            case round =>
              obtain ⟨q, l', hq, rfl, hl', I7, hkl', F7⟩ := hrel
              have HQ := Lib.hid hq
              have HL' := Lib.hid hl'
              have HKL' := Lib.hid hkl'
              clear hq hl' hkl' I6
              have X7 := X4.frm F7 (fun e => by have := (HIL.out _ e).1; omega)
              have a7 : Aft w wr := Below.trans a4 (F7.below a4.le (fun k hk e => by have := (HIL.out k e).1; omega))
              have x0 := X7.cell 0
              have x1 := X7.cell 1
              have xl := X7.lt
              by_cases hqn : q < n0
              · obtain ⟨x, hx⟩ : ∃ x, ch[q]? = some x := ⟨_, List.getElem?_eq_getElem (by have := HN0.out; omega)⟩
                obtain ⟨ab, off, rfl, d1, d2, hc⟩ := (r1.below a7 (.inr (Nat.le_refl _))).at_ encC hx (by omega)
                have c0 := hc 0 _ rfl
                rw [Nat.add_zero] at c0
                obtain ⟨cr, hcr⟩ : ∃ cr, x.r = cr := ⟨_, rfl⟩
                rw [hcr] at c0
                have CK := HCK.out wr cr a7
                obtain ⟨mm, hmm⟩ : ∃ mm, keyL ch cr = mm := ⟨_, rfl⟩
                rw [hmm] at CK
                have HMM := Lib.hid hmm
                obtain ⟨m1, m2⟩ := mm
                simp only at CK
                obtain ⟨-, hcc, -, -, hgs, hgf, hgc⟩ := I7.at_
                have hgi := hgc i (by have := HL'.out; omega)
                clear hcr hmm hc hx hgc hcc
                by_cases h1 : m1 = k1_
                case neg =>
                  have e1 : (m1 == k1_) = false := by simpa using h1
                  go_wp2_with fail
                  refine CK.mono ?_
                  rintro r8 w8 ⟨rfl, b8⟩
                  have hgi8 := ((bcell b8).1 g i hgs).trans hgi
                  have hgf8 := fun (j : Nat) => ((bcell b8).2.1 g j hgs).trans (hgf j)
                  have hgs8 : g < w8.heap.size := Nat.lt_of_lt_of_le hgs b8.size
                  go_wp2
                  go_roundg (n0 - (q + 1))
                  case rel => exact ⟨q + 1, l', by have := HQ.out; omega, by go_num, HL'.out, I7.aft b8, HKL'.out, F7.trans (Frm.of_below (F := fun j => (Value.slice (some ⟨g, 0, none⟩) n1 lc).ownBlock = some j) b8) (fun _ _ h => h)⟩
                  case measure => have := HQ.out; omega
                have e1a : (m1 == k1_) = true := by simpa using h1
                by_cases h2 : m2 = k2_
                case neg =>
                  have e2 : (m2 == k2_) = false := by simpa using h2
                  go_wp2_with fail
                  refine CK.mono ?_
                  rintro r8 w8 ⟨rfl, b8⟩
                  have hgi8 := ((bcell b8).1 g i hgs).trans hgi
                  have hgf8 := fun (j : Nat) => ((bcell b8).2.1 g j hgs).trans (hgf j)
                  have hgs8 : g < w8.heap.size := Nat.lt_of_lt_of_le hgs b8.size
                  go_wp2
                  go_roundg (n0 - (q + 1))
                  case rel => exact ⟨q + 1, l', by have := HQ.out; omega, by go_num, HL'.out, I7.aft b8, HKL'.out, F7.trans (Frm.of_below (F := fun j => (Value.slice (some ⟨g, 0, none⟩) n1 lc).ownBlock = some j) b8) (fun _ _ h => h)⟩
                  case measure => have := HQ.out; omega
                have e2a : (m2 == k2_) = true := by simpa using h2
                by_cases h3 : 0 ≤ cr
                case neg =>
                  have e3 : decide (0 ≤ cr) = false := by simpa using h3
                  go_wp2_with fail
                  refine CK.mono ?_
                  rintro r8 w8 ⟨rfl, b8⟩
                  have hgi8 := ((bcell b8).1 g i hgs).trans hgi
                  have hgf8 := fun (j : Nat) => ((bcell b8).2.1 g j hgs).trans (hgf j)
                  have hgs8 : g < w8.heap.size := Nat.lt_of_lt_of_le hgs b8.size
                  go_wp2
                  go_roundg (n0 - (q + 1))
                  case rel => exact ⟨q + 1, l', by have := HQ.out; omega, by go_num, HL'.out, I7.aft b8, HKL'.out, F7.trans (Frm.of_below (F := fun j => (Value.slice (some ⟨g, 0, none⟩) n1 lc).ownBlock = some j) b8) (fun _ _ h => h)⟩
                  case measure => have := HQ.out; omega
                have e3a : decide (0 ≤ cr) = true := by simpa using h3
                by_cases h4 : cr ≤ 1114111
                case neg =>
                  have e4 : decide (cr ≤ 1114111) = false := by simpa using h4
                  go_wp2_with fail
                  refine CK.mono ?_
                  rintro r8 w8 ⟨rfl, b8⟩
                  have hgi8 := ((bcell b8).1 g i hgs).trans hgi
                  have hgf8 := fun (j : Nat) => ((bcell b8).2.1 g j hgs).trans (hgf j)
                  have hgs8 : g < w8.heap.size := Nat.lt_of_lt_of_le hgs b8.size
                  go_wp2
                  go_roundg (n0 - (q + 1))
                  case rel => exact ⟨q + 1, l', by have := HQ.out; omega, by go_num, HL'.out, I7.aft b8, HKL'.out, F7.trans (Frm.of_below (F := fun j => (Value.slice (some ⟨g, 0, none⟩) n1 lc).ownBlock = some j) b8) (fun _ _ h => h)⟩
                  case measure => have := HQ.out; omega
                have e4a : decide (cr ≤ 1114111) = true := by simpa using h4
                go_wp2_with fail
                refine CK.mono ?_
                rintro r8 w8 ⟨rfl, b8⟩
                have hgi8 := ((bcell b8).1 g i hgs).trans hgi
                have hgf8 := fun (j : Nat) => ((bcell b8).2.1 g j hgs).trans (hgf j)
                have hgs8 : g < w8.heap.size := Nat.lt_of_lt_of_le hgs b8.size
                go_wp2
                have I9 := (I7.aft b8).set i cr
                have F9 : Frm (fun j => (Value.slice (some ⟨g, 0, none⟩) n1 lc).ownBlock = some j) w4 (w8.setCell ⟨g, i, none⟩ (.int .i32 cr)) := Frm.set (F := fun j => (Value.slice (some ⟨g, 0, none⟩) n1 lc).ownBlock = some j) (b := g) (j := i) (F7.trans (Frm.of_below (F := fun j => (Value.slice (some ⟨g, 0, none⟩) n1 lc).ownBlock = some j) b8) (fun _ _ h => h)) rfl _
                go_roundg (n0 - (q + 1))
                case rel => exact ⟨q + 1, l'.set i cr, by have := HQ.out; omega, by go_num, by rw [List.length_set]; exact HL'.out, I9, keys_set HKL'.out (by rw [HMM.out, HKL'.out i, ← HKL.out i, HR.out, HKK.out, h1, h2]), F9⟩
                case measure => have := HQ.out; omega
              · have hqe : q = n0 := by have := HQ.out; omega
                subst hqe
                go_wp2
                go_roundg (n1 - (i + 1))
                case rel => exact ⟨i + 1, l', by have := HI.out; omega, by go_num, HL'.out, I7, HKL'.out, F7⟩
                case measure => have := HI.out; omega
    · obtain ⟨W00, rfl⟩ : ∃ W00, W00 = wr := ⟨_, rfl⟩
      by_cases hl1 : i < n1
      · have hl2 : ¬ i < wn := fun h => hlt ⟨hl1, h⟩
        clear hlt
        go_wp2_with fail
        refine (HCF.out _ _ _ _ rs a5 (Reads.frm r24 FF (fun k hk _ e => by have := (HIL.out k e).1; omega)) HN1.out (fun _ => rfl)).mono ?_
        rintro r7 w7 ⟨va, rfl, BA, b7⟩
        have X7 := X5.aft b7
        have a7 := a5.trans b7
        clear x0
        clear x1
        clear x2
        clear x3
        clear x4
        clear x5
        clear x6
        clear x7
        clear x8
        clear xl
        have x0 := X7.cell 0
        have x1 := X7.cell 1
        have x2 := X7.cell 2
        have x3 := X7.cell 3
        have x4 := X7.cell 4
        have x5 := X7.cell 5
        have x6 := X7.cell 6
        have x7 := X7.cell 7
        have x8 := X7.cell 8
        have xl := X7.lt
        have I7 := I5.aft b7
        go_wp2_with fail
        refine (HCF.out _ _ _ _ l a7 I7.rd HL.out HKL.out).mono ?_
        rintro r8 w8 ⟨vb, rfl, BB, b8⟩
        have a8 := a7.trans b8
        obtain ⟨aA, ac, hva, RA, _⟩ := (BA.below b8 (Nat.le_refl _)).form
        obtain ⟨bA, bc, hvb, RB, _⟩ := BB.form
        rw [HND.out] at hva hvb
        subst hva hvb
        clear x0
        clear x1
        clear x2
        clear x3
        clear x4
        clear x5
        clear x6
        clear x7
        clear x8
        clear xl
        go_wp2_with fail
        refine (CE _ _ _ _ _ _ _ RA RB).mono ?_
        rintro r9 w9 ⟨rfl, d9, rfl⟩
        go_wp2
        go_ret
        exact ⟨rfl, a8.drewN d9⟩
      · clear hlt
        go_wp2_with fail
        refine (HCF.out _ _ _ _ rs a5 (Reads.frm r24 FF (fun k hk _ e => by have := (HIL.out k e).1; omega)) HN1.out (fun _ => rfl)).mono ?_
        rintro r7 w7 ⟨va, rfl, BA, b7⟩
        have X7 := X5.aft b7
        have a7 := a5.trans b7
        clear x0
        clear x1
        clear x2
        clear x3
        clear x4
        clear x5
        clear x6
        clear x7
        clear x8
        clear xl
        have x0 := X7.cell 0
        have x1 := X7.cell 1
        have x2 := X7.cell 2
        have x3 := X7.cell 3
        have x4 := X7.cell 4
        have x5 := X7.cell 5
        have x6 := X7.cell 6
        have x7 := X7.cell 7
        have x8 := X7.cell 8
        have xl := X7.lt
        have I7 := I5.aft b7
        go_wp2_with fail
        refine (HCF.out _ _ _ _ l a7 I7.rd HL.out HKL.out).mono ?_
        rintro r8 w8 ⟨vb, rfl, BB, b8⟩
        have a8 := a7.trans b8
        obtain ⟨aA, ac, hva, RA, _⟩ := (BA.below b8 (Nat.le_refl _)).form
        obtain ⟨bA, bc, hvb, RB, _⟩ := BB.form
        rw [HND.out] at hva hvb
        subst hva hvb
        clear x0
        clear x1
        clear x2
        clear x3
        clear x4
        clear x5
        clear x6
        clear x7
        clear x8
        clear xl
        go_wp2_with fail
        refine (CE _ _ _ _ _ _ _ RA RB).mono ?_
        rintro r9 w9 ⟨rfl, d9, rfl⟩
        go_wp2
        go_ret
        exact ⟨rfl, a8.drewN d9⟩
end Go.Proofs.Ytpdackbcnbhppaa
