/- Pairs do not cross; each place is in one at most; both ends are brackets of one key: walked. -/
import Derived.Test.YtpdackbcnbhppaaY11
import Derived.Test.YtpdackbcnbhppaaT7
namespace Go.Proofs.Ytpdackbcnbhppaa
open Go.RowKit
attribute [local go_sem] Oper.semAt_some

theorem Bools.frm {F : Nat → Prop} {W W' : World} {B : Nat} {v : Value} {l : List Bool} (h : Bools W B v l) (hf : Frm F W W') (hg : ∀ j, v.ownBlock = some j → ¬ F j) : Bools W' B v l := own_frm h hf hg
theorem Bools.aft {W W' : World} {B : Nat} {v : Value} {l : List Bool} (h : Bools W B v l) (ha : Aft W W') : Bools W' B v l := own_frm h (Frm.of_below (F := fun _ => False) ha) (fun _ _ h => h)
theorem set_true {l : List Bool} {i q : Nat} (h : (l.set i true).getD q false = true) : q = i ∨ l.getD q false = true := by
  by_cases hq : q = i
  · exact .inl hq
  · right
    rw [List.getD_eq_getElem?_getD, List.getElem?_set_ne (Ne.symm hq), ← List.getD_eq_getElem?_getD] at h
    exact h

set_option maxRecDepth 100000 in
set_option maxHeartbeats 4000000 in
theorem cross_walk {w : World} {cs : Array Value} {x : InL} {pv rv fv av bv : Value} (h : InIs w w.heap.size cs x pv rv fv av bv) :
    Calls Try.prog 9 #[.agg cs] w fun r w' => r = .returned (.bool true) ∧ Below w.heap.size w w' := by
  have hcs := h.hcs
  have CB : ∀ W, Aft w W → Calls Try.prog 25 #[.agg cs] W fun r w' => r = .returned (.bool (bynd x)) ∧ Below W.heap.size W w' := fun W hW => beyond_ok (h.below hW (.inl (Nat.le_refl _)))
  have CM : ∀ W, Aft w W → Calls Try.prog 26 #[.agg #[.int .u8 x.rest, pv]] W fun r w' => r = .returned (.bool (mayP x.rest x.ch)) ∧ Below W.heap.size W w' := fun W hW => May_ok (h.props.below hW (.inl (Nat.le_refl _)))
  have hbin : bynd x = false → x.s.pl.length ≤ 4000 ∧ x.ch.length ≤ 4000 := by
    intro hb
    unfold bynd at hb
    simp only [Bool.or_eq_false_iff, decide_eq_false_iff_not] at hb
    omega
  subst hcs
  obtain ⟨by_, hby⟩ : ∃ z, bynd x = z := ⟨_, rfl⟩
  obtain ⟨mp, hmp⟩ : ∃ z, mayP x.rest x.ch = z := ⟨_, rfl⟩
  rw [hby] at CB hbin
  rw [hmp] at CM
  have a0 : Aft w (w.alloc (.cells #[.int .u8 x.rest, pv, rv, fv, av, bv, .int .i8 x.s.lv, .int .u8 x.s.so, .int .u8 x.s.eo] 55)) := (Aft.refl w).alloc _
  have X0 := Blk.new w 55 #[.int .u8 x.rest, pv, rv, fv, av, bv, .int .i8 x.s.lv, .int .u8 x.s.so, .int .u8 x.s.eo]
  obtain ⟨A1, k1, epv, r1⟩ := h.p
  obtain ⟨A2, k2, erv, r2⟩ := h.r
  obtain ⟨A3, k3, efv, r3⟩ := h.f
  obtain ⟨A4, k4, eav, r4⟩ := h.a
  obtain ⟨A5, k5, ebv, r5⟩ := h.b
  clear hmp hby
  cases by_
  case true =>
    clear hbin CM epv erv efv eav ebv
    have x0 := X0.cell 0
    have x1 := X0.cell 1
    have x2 := X0.cell 2
    have x3 := X0.cell 3
    have x4 := X0.cell 4
    have x5 := X0.cell 5
    have x6 := X0.cell 6
    have x7 := X0.cell 7
    have x8 := X0.cell 8
    have xl := X0.lt
    go_enter Try.func9, Try.ntmps9
    go_wp2_with (first
      | (go_at_call 25; refine (CB _ a0).mono ?_; rintro r1 w1 ⟨rfl, b1⟩; have a1 := a0.trans b1)
      | (go_at_call 27; refine (lives_ok _).mono ?_; rintro r2 w2 ⟨rfl, b2⟩))
    go_ret
    exact ⟨rfl, a1.trans b2⟩
  cases mp
  case false =>
    clear hbin epv erv efv eav ebv
    have x0 := X0.cell 0
    have x1 := X0.cell 1
    have x2 := X0.cell 2
    have x3 := X0.cell 3
    have x4 := X0.cell 4
    have x5 := X0.cell 5
    have x6 := X0.cell 6
    have x7 := X0.cell 7
    have x8 := X0.cell 8
    have xl := X0.lt
    go_enter Try.func9, Try.ntmps9
    go_wp2_with (first
      | (go_at_call 25
         refine (CB _ a0).mono ?_
         rintro r1 w1 ⟨rfl, b1⟩
         have a1 := a0.trans b1
         have X1 := X0.aft b1
         have z0 := X1.cell 0
         have z1 := X1.cell 1
         have z2 := X1.cell 2
         have z3 := X1.cell 3
         have z4 := X1.cell 4
         have z5 := X1.cell 5
         have z6 := X1.cell 6
         have z7 := X1.cell 7
         have z8 := X1.cell 8
         have zl := X1.lt)
      | (go_at_call 26; refine (CM _ a1).mono ?_; rintro r2 w2 ⟨rfl, b2⟩; have a2 := a1.trans b2)
      | (go_at_call 27; refine (lives_ok _).mono ?_; rintro r2 w3 ⟨rfl, b3⟩))
    go_ret
    exact ⟨rfl, a2.trans b3⟩
  have hb4 := hbin rfl
  clear hbin
  have hq2 := h.l2
  have hq3 := h.l3
  have hq4 := h.l4
  have hq5 := h.l5
  subst epv erv efv eav ebv
  have hq2 := h.l2
  have hP := h.props
  have hS := h.sq
  obtain ⟨M, hM⟩ : ∃ M, mayL x.rs.length x.s = M := ⟨_, rfl⟩
  obtain ⟨D, hD⟩ : ∃ D, findF x.ch x.rs x.s = D := ⟨_, rfl⟩
  have hDl : D.length ≤ 4000 := by have := findF_len (ch := x.ch) (rs := x.rs) (s := x.s); rw [hD] at this; omega
  have hFnd := find_crs x.ch x.rs x.s
  rw [hD] at hFnd
  have CF : ∀ W, Aft w W → Calls Try.prog 29 #[.iface 52 (.agg #[.int .u8 x.rest, .slice A1 x.ch.length k1]), .slice A2 x.rs.length k2, .agg (x.s.is (.slice A4 x.s.pl.length k4) (.slice A5 x.s.cs.length k5))] W fun r w' => ∃ v, r = .returned (.tuple #[v, .int .i64 M]) ∧ BrsAt w' W.heap.size v D ∧ Below W.heap.size W w' := by
    intro W hW
    have := PFind_ok (rc := k2) (hP.below hW (.inl (Nat.le_refl _))) (r2.aft hW) (hS.below hW (.inl (Nat.le_refl _))) (by omega) (by omega)
    rw [hM, hD] at this
    exact this
  have CKy : ∀ W (r : Int), Aft w W → Calls Try.prog 36 #[.agg #[.int .u8 x.rest, .slice A1 x.ch.length k1], .int .i32 r] W fun e w' => e = .returned (.tuple #[.int .i32 (keyL x.ch r).1, .int .u8 (keyL x.ch r).2]) ∧ Below W.heap.size W w' := fun W r hA => key_ok r (hP.below hA (.inl (Nat.le_refl _)))
  simp only [Sq.is] at CF
  have HCF := Lib.hid CF
  have HCK := Lib.hid CKy
  have HFND := Lib.hid hFnd
  have hMZ : M = 0 → chkL x.s = 0 ∧ ∀ i, i < x.s.pl.length → 0 ≤ x.s.pl.getD i 0 ∧ x.s.pl.getD i 0 < (x.rs.length : Int) := fun h => may_zero (by rw [hM]; exact h)
  have HMZ := Lib.hid hMZ
  clear hM hD hP hS CF CKy hFnd hMZ r1 r3
  obtain ⟨rest, ch, rs, fs, ⟨pl, cl, lv, so, eo⟩⟩ := x
  simp only at *
  obtain ⟨n0, hn0⟩ : ∃ n, ch.length = n := ⟨_, rfl⟩
  obtain ⟨n1, hn1⟩ : ∃ n, rs.length = n := ⟨_, rfl⟩
  obtain ⟨n2, hn2⟩ : ∃ n, fs.length = n := ⟨_, rfl⟩
  obtain ⟨n3, hn3⟩ : ∃ n, pl.length = n := ⟨_, rfl⟩
  obtain ⟨n4, hn4⟩ : ∃ n, cl.length = n := ⟨_, rfl⟩
  obtain ⟨nd, hnd⟩ : ∃ n, D.length = n := ⟨_, rfl⟩
  rw [hn0, hn1, hn2, hn3, hn4] at CB a0 X0
  rw [hn0, hn1, hn3, hn4] at HCF
  rw [hn0] at CM HCK
  rw [hn1, hn3] at HMZ
  rw [hn3] at hb4
  rw [hn1] at hq2
  rw [hn0, hn1, hn2, hn3, hn4]
  have HND := Lib.hid hnd
  have HN1 := Lib.hid hn1
  have HN3 := Lib.hid hn3
  have HN4 := Lib.hid hn4
  have hnd2 : nd ≤ 4000 := by omega
  clear hn0 hn1 hn2 hn3 hn4 hnd h hDl hq3 hq4 hq5
  obtain ⟨hn3b, -⟩ := hb4
  obtain ⟨Wb, hWb⟩ : ∃ Wb, w.alloc (.cells #[.int .u8 rest, .slice A1 n0 k1, .slice A2 n1 k2, .slice A3 n2 k3, .slice A4 n3 k4, .slice A5 n4 k5, .int .i8 lv, .int .u8 so, .int .u8 eo] 55) = Wb := ⟨_, rfl⟩
  rw [hWb] at X0 a0
  obtain ⟨u, hu⟩ : ∃ u, w.heap.size = u := ⟨_, rfl⟩
  rw [hu] at X0
  have HWB := Lib.hid hWb
  have HU := Lib.hid hu
  clear hWb
  have x0 := X0.cell 0
  have x1 := X0.cell 1
  have x2 := X0.cell 2
  have x3 := X0.cell 3
  have x4 := X0.cell 4
  have x5 := X0.cell 5
  have x6 := X0.cell 6
  have x7 := X0.cell 7
  have x8 := X0.cell 8
  have xl := X0.lt
  go_enter Try.func9, Try.ntmps9
  go_upto_region 1 with (fail)
  rw [HWB.out]
  clear hu
  go_wp2_with fail
  refine (CB _ a0).mono ?_
  rintro r1 w1 ⟨rfl, b1⟩
  have a1 := a0.trans b1
  have X1 := X0.aft b1
  clear x0 x1 x2 x3 x4 x5 x6 x7 x8 xl
  have x0 := X1.cell 0
  have x1 := X1.cell 1
  have x2 := X1.cell 2
  have x3 := X1.cell 3
  have x4 := X1.cell 4
  have x5 := X1.cell 5
  have x6 := X1.cell 6
  have x7 := X1.cell 7
  have x8 := X1.cell 8
  have xl := X1.lt
  go_wp2_with fail
  refine (CM _ a1).mono ?_
  rintro r2 w2 ⟨rfl, b2⟩
  have a2 := a1.trans b2
  have X2 := X1.aft b2
  clear x0 x1 x2 x3 x4 x5 x6 x7 x8 xl
  go_wp2_with fail
  refine (lives_ok _).mono ?_
  rintro r3 w3 ⟨rfl, b3⟩
  have a3 := a2.trans b3
  have X3 := X2.aft b3
  have x0 := X3.cell 0
  have x1 := X3.cell 1
  have x2 := X3.cell 2
  have x3 := X3.cell 3
  have x4 := X3.cell 4
  have x5 := X3.cell 5
  have x6 := X3.cell 6
  have x7 := X3.cell 7
  have x8 := X3.cell 8
  have xl := X3.lt
  go_wp2_with fail
  refine (HCF.out _ a3).mono ?_
  rintro r4 w4 ⟨va, rfl, BA, b4⟩
  have a4 := a3.trans b4
  have X4 := X3.aft b4
  have hs34 := b4.size
  have hul := X3.lt
  obtain ⟨aA, ac, hva, RA, fA⟩ := BA.form
  rw [HND.out] at hva
  subst hva
  clear x0 x1 x2 x3 x4 x5 x6 x7 x8 xl
  have x0 := X4.cell 0
  have x1 := X4.cell 1
  have x2 := X4.cell 2
  have x3 := X4.cell 3
  have x4 := X4.cell 4
  have x5 := X4.cell 5
  have x6 := X4.cell 6
  have x7 := X4.cell 7
  have x8 := X4.cell 8
  have xl := X4.lt
  clear X0 X1 X2 X3 b1 b2 b3 b4 a1 a2 a3 CB CM HCF BA fA
  by_cases hM0 : M = 0
  case neg =>
    have e1 : (M != 0) = true := by simpa using hM0
    go_wp2
    go_ret
    exact ⟨rfl, a4⟩
  obtain ⟨hck, hin⟩ := HMZ.out hM0
  have hlen := (chk_pos hck).2
  have hn43 : n4 = n3 := by have := HN3.out; have := HN4.out; simp only at hlen; omega
  have HIN := Lib.hid hin
  have HN43 := Lib.hid hn43
  have hn43' : n3 ≤ n4 := by omega
  subst hM0
  clear hck hin hlen hn43
  go_wp2_with (at_make; go_must (refine wpList_mkB w4.heap.size rfl rfl n3 rfl rfl rfl rfl ?_ ?_ ?_ ?_))
  · omega
  · unfold maxLen; omega
  · exact Nat.le_refl _
  intro w5 BS g5
  have t5 : Aft w4 w5 := Aft.of_grown g5
  have a5 := a4.trans t5
  have X5 := X4.aft t5
  have R5 : RdR brC 2 w5 w4.heap.size aA D := RA.below t5 (.inl (Nat.le_refl _))
  have p5 := r4.aft a5
  have c5 := r5.aft a5
  have u5 := r2.aft a5
  obtain ⟨sg, hsg⟩ : ∃ sg, w4.heap.size = sg := ⟨_, rfl⟩
  have hus : u < sg := by have := X4.lt; omega
  rw [hsg] at BS R5
  rw [hsg]
  have hws : w.heap.size ≤ sg := by have := a4.le; omega
  have HSG := Lib.hid hsg
  clear x0 x1 x2 x3 x4 x5 x6 x7 x8 xl
  clear g5 t5 hsg X4 RA a4 r2 r4 r5
  go_wp2
  go_loopg [6] nd (fun gk iv wr => ∃ (i : Nat) (sn : List Bool), i + gk = nd ∧ iv = .int .i64 i ∧ sn.length = n3 ∧ Bools wr sg (.slice (some ⟨sg, 0, none⟩) n3 n3) sn ∧ (∀ q, sn.getD q false = true → ∃ j, j < i ∧ (q = (D.getD j (0, 0)).1.toNat ∨ q = (D.getD j (0, 0)).2.toNat)) ∧ Frm (fun j => j = sg) w5 wr)
  case atStart => exact ⟨0, _, by omega, rfl, List.length_replicate, BS, (fun q h => by exfalso; rw [List.getD_eq_getElem?_getD, List.getElem?_replicate] at h; split at h <;> simp at h), Frm.refl _ _⟩
  case round =>
    obtain ⟨i, sn, hi, rfl, hsn, B1, hseen, FF⟩ := hrel
    have HI := Lib.hid hi
    have HSN := Lib.hid hsn
    have HSE := Lib.hid hseen
    clear hi hsn hseen BS
    have X6 := X5.frm FF (by omega)
    have a6 : Aft w wr := Below.trans a5 (FF.below a5.le (fun k hk e => by have e : k = sg := e; omega))
    have x0 := X6.cell 0
    have x1 := X6.cell 1
    have x2 := X6.cell 2
    have x3 := X6.cell 3
    have x4 := X6.cell 4
    have x5 := X6.cell 5
    have x6 := X6.cell 6
    have x7 := X6.cell 7
    have x8 := X6.cell 8
    have xl := X6.lt
    by_cases hlt : i < nd
    · have hD : i < D.length := by have := HND.out; omega
      have R6 : RdR brC 2 wr sg aA D := Reads.frm R5 FF (fun k hk _ e => by have e : k = sg := e; omega)
      obtain ⟨lb, lo, rfl, l1, l2, u0, u1⟩ := R6.pair hD
      obtain ⟨e1, e2, e3, ky, ⟨ba1, ba2⟩, ⟨bb1, bb2⟩⟩ := HFND.out.each _ (getD_mem hD)
      have hprev : 0 < i → ∃ pa : Int, wr.cell? ⟨lb, lo + (i - 1) * 2, none⟩ = some (.int .i64 pa) ∧ pa < (D.getD i (0, 0)).1 := by
        intro h0
        obtain ⟨lb', lo', e, _, _, v0, _⟩ := R6.pair (i := i - 1) (by omega)
        cases e
        exact ⟨_, v0, (HFND.out.inc_at (i := i - 1) (j := i) (by omega) hD).1⟩
      have hfree : ∀ q, (q = (D.getD i (0, 0)).1.toNat ∨ q = (D.getD i (0, 0)).2.toNat) → sn.getD q false = false := by
        intro q hq
        rcases hs : sn.getD q false with _ | _
        · rfl
        · exfalso
          obtain ⟨j, hj, hjq⟩ := HSE.out q hs
          obtain ⟨_, d1, d2, d3, d4⟩ := HFND.out.inc_at (i := j) (j := i) hj hD
          obtain ⟨f1, f2, f3, _⟩ := HFND.out.each _ (getD_mem (show j < D.length by omega))
          rcases hq with rfl | rfl <;> rcases hjq with h | h <;> omega
      have hcross : ∀ j, j < i → ¬ ((D.getD j (0, 0)).1 < (D.getD i (0, 0)).1 ∧ (D.getD i (0, 0)).1 < (D.getD j (0, 0)).2 ∧ (D.getD j (0, 0)).2 < (D.getD i (0, 0)).2) := fun j hj => HFND.out.cr _ (getD_mem (by omega)) _ (getD_mem hD)
      obtain ⟨x, hx⟩ : ∃ x, D.getD i (0, 0) = x := ⟨_, rfl⟩
      rw [hx] at u0 u1 e1 e2 e3 ba1 ba2 bb1 bb2 hfree hprev hcross
      obtain ⟨a, ha⟩ : ∃ a : Nat, x.1 = a := ⟨x.1.toNat, by omega⟩
      obtain ⟨b, hb⟩ : ∃ b : Nat, x.2 = b := ⟨x.2.toNat, by omega⟩
      rw [ha] at u0 e1 e2 ba1 ba2 hfree hprev hcross
      rw [hb] at u1 e2 e3 bb1 bb2 hfree hcross
      rw [Int.toNat_natCast] at ba1 ba2 bb1 bb2
      rw [Int.toNat_natCast, Int.toNat_natCast] at hfree
      have hxa : (D.getD i (0, 0)).1.toNat = a ∧ (D.getD i (0, 0)).2.toNat = b := by rw [hx, ha, hb]; exact ⟨Int.toNat_natCast a, Int.toNat_natCast b⟩
      have HXA := Lib.hid hxa
      have hab : a < b := by omega
      have hbn : b < n3 := by have := HN3.out; simp only at e3; omega
      have s0 := hfree a (.inl rfl)
      have s1 := hfree b (.inr rfl)
      obtain ⟨_, hsz, hsf, hsc⟩ := B1.at_
      have sc0 := hsc a (by have := HSN.out; omega)
      have sc1 := hsc b (by have := HSN.out; omega)
      rw [s0] at sc0
      rw [s1] at sc1
      -- classes, places, runes
      have pR : RdInts wr w.heap.size .i64 A4 pl := Reads.frm p5 FF (fun k hk _ e => by have e : k = sg := e; omega)
      have cR : RdInts wr w.heap.size .u8 A5 cl := Reads.frm c5 FF (fun k hk _ e => by have e : k = sg := e; omega)
      have rR : RdInts wr w.heap.size .i32 A2 rs := Reads.frm u5 FF (fun k hk _ e => by have e : k = sg := e; omega)
      obtain ⟨cb, co, rfl, c1, c2, ca⟩ := cR.at_ (i := a) (by have := HN4.out; omega)
      obtain ⟨cb', co', ecb, _, _, cbb⟩ := cR.at_ (i := b) (by have := HN4.out; omega)
      cases ecb
      simp only at ba1 bb1
      rw [ba1] at ca
      rw [bb1] at cbb
      obtain ⟨pb, po, rfl, q1, q2, pa_⟩ := pR.at_ (i := a) (by have := HN3.out; omega)
      obtain ⟨pb', po', epb, _, _, pb_⟩ := pR.at_ (i := b) (by have := HN3.out; omega)
      cases epb
      have hpa := HIN.out a (by omega)
      have hpb := HIN.out b (by omega)
      obtain ⟨qa, hqa⟩ : ∃ qa : Nat, pl.getD a 0 = qa := ⟨(pl.getD a 0).toNat, by omega⟩
      obtain ⟨qb, hqb⟩ : ∃ qb : Nat, pl.getD b 0 = qb := ⟨(pl.getD b 0).toNat, by omega⟩
      rw [hqa] at pa_ hpa
      rw [hqb] at pb_ hpb
      have hqan : qa < n1 := by omega
      have hqbn : qb < n1 := by omega
      obtain ⟨rb, ro, rfl, t1, t2, ra_⟩ := rR.at_ (i := qa) (by have := HN1.out; omega)
      obtain ⟨rb', ro', erb, _, _, rb_⟩ := rR.at_ (i := qb) (by have := HN1.out; omega)
      cases erb
      unfold rnA at ba2 bb2
      simp only at ba2 bb2
      rw [hqa, Int.toNat_natCast] at ba2
      rw [hqb, Int.toNat_natCast] at bb2
      obtain ⟨va_, hva_⟩ : ∃ z, rs.getD qa 0 = z := ⟨_, rfl⟩
      obtain ⟨vb_, hvb_⟩ : ∃ z, rs.getD qb 0 = z := ⟨_, rfl⟩
      rw [hva_] at ra_ ba2
      rw [hvb_] at rb_ bb2
      have CKa := fun W (hA : Aft w W) => HCK.out W va_ hA
      have CKb := fun W (hA : Aft w W) => HCK.out W vb_ hA
      rw [ba2] at CKa
      rw [bb2] at CKb
      have HPREV := Lib.hid hprev
      have HCROSS := Lib.hid hcross
      have BT := (B1.set a true).set b true
      have FT : Frm (fun j => j = sg) w5 ((wr.setCell ⟨sg, a, none⟩ (.bool true)).setCell ⟨sg, b, none⟩ (.bool true)) := Frm.set (F := fun j => j = sg) (b := sg) (j := b) (Frm.set (F := fun j => j = sg) (b := sg) (j := a) FF rfl _) rfl _
      have hnex : ∀ q, ((sn.set a true).set b true).getD q false = true → ∃ j, j < i + 1 ∧ (q = (D.getD j (0, 0)).1.toNat ∨ q = (D.getD j (0, 0)).2.toNat) := by
        intro q h
        rcases set_true h with rfl | h
        · exact ⟨i, by omega, .inr HXA.out.2.symm⟩
        · rcases set_true h with rfl | h
          · exact ⟨i, by omega, .inl HXA.out.1.symm⟩
          · obtain ⟨j, hj, h2⟩ := HSE.out q h
            exact ⟨j, by omega, h2⟩
      have HNEX := Lib.hid hnex
      have HR5 := Lib.hid (show RdR brC 2 w5 sg (some ⟨lb, lo, none⟩) D from R5)
      have hsl : ((sn.set a true).set b true).length = n3 := by rw [List.length_set, List.length_set]; exact HSN.out
      have HSL := Lib.hid hsl
      have hba : decide ((b : Int) ≤ (a : Int)) = false := by simp; omega
      have hbs : decide ((n3 : Int) ≤ (b : Int)) = false := by simp; omega
      have han : a < n3 := by omega
      have han4 : a < n4 := by omega
      have hbn4 : b < n4 := by omega
      clear hprev hcross hfree hx ha hb hxa s0 s1 hsc pR cR rR hqa hqb hva_ hvb_ ba1 ba2 bb1 bb2 hpa hpb hnex hsl e1 e2 e3 R5 R6 hD
      have keep : ∀ W, Frm (fun j => j = sg) wr W → W.cell? ⟨u, 0, none⟩ = some (.int .u8 rest) ∧ W.cell? ⟨u, 1, none⟩ = some (.slice A1 n0 k1) ∧ W.cell? ⟨u, 2, none⟩ = some (.slice (some ⟨rb, ro, none⟩) n1 k2) ∧ W.cell? ⟨u, 4, none⟩ = some (.slice (some ⟨pb, po, none⟩) n3 k4) ∧
          (W.cell? ⟨pb, po + a, none⟩ = some (.int .i64 qa) ∧ W.cell? ⟨rb, ro + qa, none⟩ = some (.int .i32 va_)) ∧ (W.cell? ⟨pb, po + b, none⟩ = some (.int .i64 qb) ∧ W.cell? ⟨rb, ro + qb, none⟩ = some (.int .i32 vb_)) := by
        intro W hF
        have k1_ : ∀ o, W.cell? ⟨u, o, none⟩ = wr.cell? ⟨u, o, none⟩ := fun o => World.cell?_of_block (a := ⟨u, o, none⟩) (hF.block u xl (by omega))
        have k2_ : ∀ o, W.cell? ⟨pb, o, none⟩ = wr.cell? ⟨pb, o, none⟩ := fun o => World.cell?_of_block (a := ⟨pb, o, none⟩) (hF.block pb q2 (by omega))
        have k3_ : ∀ o, W.cell? ⟨rb, o, none⟩ = wr.cell? ⟨rb, o, none⟩ := fun o => World.cell?_of_block (a := ⟨rb, o, none⟩) (hF.block rb t2 (by omega))
        rw [k1_, k1_, k1_, k1_, k2_, k2_, k3_, k3_]
        exact ⟨x0, x1, x2, x4, ⟨pa_, ra_⟩, ⟨pb_, rb_⟩⟩
      have KEEP := Lib.hid keep
      clear keep
      go_wp2
      go_quiet (fail)
      go_upto_region 11 with (fail)
      go_cut [119] from 63 to 119 (fun v wx => v = .bool false ∧ wx = wr.drewN nq)
      case first =>
        by_cases hi0 : 0 < i
        · obtain ⟨pv, pvc, pvl⟩ := HPREV.out hi0
          have wi : IntKind.i64.wrap ((i : Int) - 1) = ((i - 1 : Nat) : Int) := by rw [IntWalk.i64_in _ (by omega)]; omega
          have dgi : decide ((0 : Int) < (i : Int)) = true := by simp; omega
          have dpl : decide ((a : Int) ≤ pv) = false := by simp; omega
          have hi1 : i - 1 < nd := by omega
          go_wp2
          go_meet
          exact ⟨congrArg Value.bool (by simp; omega), rfl⟩
        · have hi00 : i = 0 := by omega
          have dgi : decide ((0 : Int) < (i : Int)) = false := by simp; omega
          clear hi00
          go_wp2
          go_meet
          exact ⟨congrArg Value.bool (by simp; omega), rfl⟩
      case rest =>
        obtain ⟨rfl, hwx⟩ := hcut
        have hwx2 := hwx.symm
        subst hwx2
        clear hwx
        have tq : Aft wr (wr.drewN nq) := (Aft.refl wr).drewN nq
        have FT2 : Frm (fun j => j = sg) wr (((wr.drewN nq).setCell ⟨sg, a, none⟩ (.bool true)).setCell ⟨sg, b, none⟩ (.bool true)) := Frm.set (F := fun j => j = sg) (b := sg) (j := b) (Frm.set (F := fun j => j = sg) (b := sg) (j := a) (Frm.of_below (F := fun j => j = sg) tq) rfl _) rfl _
        have BT2 : Bools (((wr.drewN nq).setCell ⟨sg, a, none⟩ (.bool true)).setCell ⟨sg, b, none⟩ (.bool true)) sg (.slice (some ⟨sg, 0, none⟩) n3 n3) ((sn.set a true).set b true) := ((B1.aft tq).set a true).set b true
        clear BT FT
        go_upto_region 15 with (fail)
        obtain ⟨WT, hWT⟩ : ∃ WT, ((wr.drewN nq).setCell ⟨sg, a, none⟩ (.bool true)).setCell ⟨sg, b, none⟩ (.bool true) = WT := ⟨_, rfl⟩
        rw [hWT] at FT2 BT2
        rw [hWT]
        clear hWT tq hsz hsf sc0 sc1 B1
        have FWT : Frm (fun j => j = sg) wr WT := FT2
        have aWT : Aft w WT := Below.trans a6 (FT2.below a6.le (fun k hk e => by have e : k = sg := e; omega))
        refine wpIn_wide.1 (wpIn_region_vars (d := 0) (c := 12) (av := []) (vars := []) (K := [(0, 0), (0, 0), (0, 0), (0, 0), (0, 0), (0, 0), (0, 0), (0, 0), (0, 0), (0, 0), (0, 0), (0, 0), (1, 0), (0, 0), (0, 0), (0, 0), (0, 0), (0, 0)])
          (U := [none, none, none, none, none, none, none, none, none, none, none, none, some 12, some 12, some 12, some 12, some 12, some 12]) (E := [])
          (vs := [.inl (.pointer (some ⟨u, 0, none⟩)), .inl (.agg #[.int .u8 rest, .slice A1 n0 k1]), .inl (.pointer (some ⟨u, 2, none⟩)), .inl (.slice (some ⟨rb, ro, none⟩) n1 k2), .inl (.pointer (some ⟨u, 4, none⟩)), .inl (.pointer (some ⟨u, 4, none⟩)), .inl (.slice (some ⟨pb, po, none⟩) n3 k4), .inl (.int .i64 a), .inl (.pointer (some ⟨pb, po + a, none⟩)), .inl (.int .i64 qa), .inl (.pointer (some ⟨rb, ro + qa, none⟩)), .inl (.int .i32 va_),
            .inr (12, id), .inr (12, id), .inr (12, extV 0), .inr (12, extV 1), .inr (12, extV 0), .inr (12, extV 1)])
          (R := fun r => r = .tuple #[.int .i32 ky, .int .u8 1]) (T := fun _ _ => True) (by kernel_rfl) (by kernel_rfl) rfl rfl (by kernel_rfl) (by kernel_rfl) ?_ ?_)
        · simp only [List.map_cons, List.map_nil, valV, id, putAll, Act.put, List.setIfInBounds_toArray, List.set_cons_zero, List.set_cons_succ]
          refine ⟨?_, ?_, ?_, ?_, ?_, ?_, ?_, ?_, ?_, ?_, ?_, ?_, ?_, ?_, ?_, ?_, ?_, ?_, trivial⟩
          all_goals first
            | (intro ρ W hA _; obtain ⟨v0, v1, v2, v4, ⟨v5, v6⟩, ⟨v7, v8⟩⟩ := KEEP.out W (FWT.trans (Frm.of_below (F := fun j => j = sg) hA) (fun _ _ h => h)); simp only [valV, id]; go_simp; done)
            | (intro ρ W hA hu; have e : ρ 12 = .tuple #[.int .i32 ky, .int .u8 1] := hu rfl; simp only [valV, e, extV_20, extV_21]; go_simp; done)
            | skip
          refine ⟨fun _ => rfl, fun ρ W hA => ⟨36, #[.agg #[.int .u8 rest, .slice A1 n0 k1], .int .i32 va_], ?_, ?_⟩⟩
          · go_simp
          · refine (CKa W (aWT.trans hA)).mono ?_
            rintro r w9 ⟨rfl, b9⟩
            exact ⟨_, rfl, rfl, b9, fun _ _ => trivial⟩
        intro ρWT WWT hAWT hRWT _ _ _
        have hRWT : ρWT 12 = .tuple #[.int .i32 ky, .int .u8 1] := hRWT
        simp only [List.map_cons, List.map_nil, valV, id, putAll, Act.put, List.setIfInBounds_toArray, List.set_cons_zero, List.set_cons_succ, hRWT, extV_20, extV_21]
        clear hRWT
        have FW1 : Frm (fun j => j = sg) wr WWT := FWT.trans (Frm.of_below (F := fun j => j = sg) hAWT) (fun _ _ h => h)
        have FWV : Frm (fun j => j = sg) wr WWT := FW1
        have aW1 : Aft w WWT := aWT.trans hAWT
        have BW1 := BT2.aft hAWT
        go_upto_region 16 with (fail)
        have FW1x := FW1
        refine wpIn_wide.1 (wpIn_region_vars (d := 0) (c := 12) (av := []) (vars := []) (K := [(0, 0), (0, 0), (0, 0), (0, 0), (0, 0), (0, 0), (0, 0), (0, 0), (0, 0), (0, 0), (0, 0), (0, 0), (1, 0), (0, 0), (0, 0), (0, 0), (0, 0), (0, 0)])
          (U := [none, none, none, none, none, none, none, none, none, none, none, none, some 12, some 12, some 12, some 12, some 12, some 12]) (E := [])
          (vs := [.inl (.pointer (some ⟨u, 0, none⟩)), .inl (.agg #[.int .u8 rest, .slice A1 n0 k1]), .inl (.pointer (some ⟨u, 2, none⟩)), .inl (.slice (some ⟨rb, ro, none⟩) n1 k2), .inl (.pointer (some ⟨u, 4, none⟩)), .inl (.pointer (some ⟨u, 4, none⟩)), .inl (.slice (some ⟨pb, po, none⟩) n3 k4), .inl (.int .i64 b), .inl (.pointer (some ⟨pb, po + b, none⟩)), .inl (.int .i64 qb), .inl (.pointer (some ⟨rb, ro + qb, none⟩)), .inl (.int .i32 vb_),
            .inr (12, id), .inr (12, id), .inr (12, extV 0), .inr (12, extV 1), .inr (12, extV 0), .inr (12, extV 1)])
          (R := fun r => r = .tuple #[.int .i32 ky, .int .u8 2]) (T := fun _ _ => True) (by kernel_rfl) (by kernel_rfl) rfl rfl (by kernel_rfl) (by kernel_rfl) ?_ ?_)
        · simp only [List.map_cons, List.map_nil, valV, id, putAll, Act.put, List.setIfInBounds_toArray, List.set_cons_zero, List.set_cons_succ]
          refine ⟨?_, ?_, ?_, ?_, ?_, ?_, ?_, ?_, ?_, ?_, ?_, ?_, ?_, ?_, ?_, ?_, ?_, ?_, trivial⟩
          all_goals first
            | (intro ρ W hA _; obtain ⟨v0, v1, v2, v4, ⟨v5, v6⟩, ⟨v7, v8⟩⟩ := KEEP.out W (FW1.trans (Frm.of_below (F := fun j => j = sg) hA) (fun _ _ h => h)); simp only [valV, id]; go_simp; done)
            | (intro ρ W hA hu; have e : ρ 12 = .tuple #[.int .i32 ky, .int .u8 2] := hu rfl; simp only [valV, e, extV_20, extV_21]; go_simp; done)
            | skip
          refine ⟨fun _ => rfl, fun ρ W hA => ⟨36, #[.agg #[.int .u8 rest, .slice A1 n0 k1], .int .i32 vb_], ?_, ?_⟩⟩
          · go_simp
          · refine (CKb W (aW1.trans hA)).mono ?_
            rintro r w9 ⟨rfl, b9⟩
            exact ⟨_, rfl, rfl, b9, fun _ _ => trivial⟩
        intro ρW1 WW1 hAW1 hRW1 _ _ _
        have hRW1 : ρW1 12 = .tuple #[.int .i32 ky, .int .u8 2] := hRW1
        simp only [List.map_cons, List.map_nil, valV, id, putAll, Act.put, List.setIfInBounds_toArray, List.set_cons_zero, List.set_cons_succ, hRW1, extV_20, extV_21]
        clear hRW1
        have FW2 : Frm (fun j => j = sg) wr WW1 := FW1.trans (Frm.of_below (F := fun j => j = sg) hAW1) (fun _ _ h => h)
        have aW2 : Aft w WW1 := aW1.trans hAW1
        have BW2 := BW1.aft hAW1
        have F5 : Frm (fun j => j = sg) w5 WW1 := FF.trans FW2 (fun _ _ h => h)
        have R7 : RdR brC 2 WW1 sg (some ⟨lb, lo, none⟩) D := Reads.frm HR5.out F5 (fun k hk _ e => by have e : k = sg := e; omega)
        have eky : (ky != ky) = false := by simp
        clear KEEP CKa CKb FW1 FW1x FWV FWT FT2 BT2 BW1 aWT aW1 hAWT hAW1 HPREV x0 x1 x2 x3 x4 x5 x6 x7 x8 xl X6 ca cbb pa_ pb_ ra_ rb_ u0 u1 hba hbs han han4 hbn4 FF FW2
        obtain ⟨Wv, hWv⟩ : ∃ Wv, WW1 = Wv := ⟨_, rfl⟩
        rw [hWv] at BW2 F5 R7 aW2
        rw [hWv]
        clear hWv
        obtain ⟨W00, rfl⟩ : ∃ W00, W00 = wr := ⟨_, rfl⟩
        go_wp2
        go_loopg [13] i (fun gk jv wr => ∃ j d : Nat, j + gk = i ∧ jv = .int .i64 j ∧ wr = Wv.drewN d)
        case atStart => exact ⟨0, 0, by omega, rfl, rfl⟩
        case round =>
          obtain ⟨j, d, hj, rfl, rfl⟩ := hrel
          have HJ := Lib.hid hj
          clear hj
          by_cases hji : j < i
          · obtain ⟨lb', lo', e, _, l2', v0, v1⟩ := R7.pair (i := j) (by have := HND.out; omega)
            cases e
            have hc := HCROSS.out j hji
            obtain ⟨y, hy⟩ : ∃ y, D.getD j (0, 0) = y := ⟨_, rfl⟩
            rw [hy] at v0 v1 hc
            obtain ⟨yc, yd⟩ := y
            simp only at v0 v1 hc
            have hjn : j < nd := by omega
            clear hy
            by_cases g1 : yc < (a : Int)
            · have g1b : decide (yc < (a : Int)) = true := by simpa using g1
              by_cases g2 : (a : Int) < yd
              · have g2b : decide ((a : Int) < yd) = true := by simpa using g2
                have g3b : decide (yd < (b : Int)) = false := by simp; omega
                clear hc
                go_wp2
                go_quiet (fail)
                go_wp2
                go_roundg (i - (j + 1))
                case rel => exact ⟨j + 1, _, by have := HJ.out; omega, by go_num, rfl⟩
                case measure => have := HJ.out; omega
              · have g2b : decide ((a : Int) < yd) = false := by simpa using g2
                clear hc
                go_wp2
                go_quiet (fail)
                go_wp2
                go_roundg (i - (j + 1))
                case rel => exact ⟨j + 1, _, by have := HJ.out; omega, by go_num, rfl⟩
                case measure => have := HJ.out; omega
            · have g1b : decide (yc < (a : Int)) = false := by simpa using g1
              clear hc
              go_wp2
              go_quiet (fail)
              go_wp2
              go_roundg (i - (j + 1))
              case rel => exact ⟨j + 1, _, by have := HJ.out; omega, by go_num, rfl⟩
              case measure => have := HJ.out; omega
          · have hje : j = i := by have := HJ.out; omega
            subst hje
            go_wp2
            go_roundg (nd - (j + 1))
            case rel => exact ⟨j + 1, _, by have := HI.out; omega, by go_num, HSL.out, (own_frm BW2 ((Frm.refl (fun _ => False) Wv).drewN d) (fun _ _ h => h)), HNEX.out, F5.drewN d⟩
            case measure => have := HI.out; omega
    · have hin : i = nd := by have := HI.out; omega
      subst hin
      go_wp2
      go_ret
      exact ⟨rfl, a6⟩
end Go.Proofs.Ytpdackbcnbhppaa
