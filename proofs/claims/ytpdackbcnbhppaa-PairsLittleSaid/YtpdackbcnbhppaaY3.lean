/- The brackets of a sequence, by the reference. -/
import Derived.Test.YtpdackbcnbhppaaR12
namespace Go.Proofs.Ytpdackbcnbhppaa
open Go.RowKit
attribute [local go_sem] Oper.semAt_some

theorem et3 : ElemT Try.prog 84 128 3 16 := etM
theorem mkT_succ {ch : List Chr} {rs : List Int} {s : Sq} (k : Nat) : mkT ch rs s (k + 1) = mkT ch rs s k ++ mk1 ch rs s k := rfl
theorem mk1_len (ch : List Chr) (rs : List Int) (s : Sq) (k : Nat) : (mk1 ch rs s k).length ≤ 1 := by
  unfold mk1
  split
  · simp only
    split
    · simp
    · split <;> simp
  · simp
theorem mkT_len (ch : List Chr) (rs : List Int) (s : Sq) : ∀ k, (mkT ch rs s k).length ≤ k
  | 0 => Nat.le_refl _
  | k + 1 => by rw [mkT_succ, List.length_append]; have := mkT_len ch rs s k; have := mk1_len ch rs s k; omega

set_option maxRecDepth 100000 in
set_option maxHeartbeats 4000000 in
theorem rMarks_ok {w : World} {Bp Br Bs rc : Nat} {pv sv : Value} {rest : Int} {ch : List Chr} {rA : Option Addr} {rs : List Int} {s : Sq} (hP : PropsIs w Bp pv rest ch) (hR : RdInts w Br .i32 rA rs) (hS : SqIs w Bs sv s) (hn : s.pl.length ≤ 1048576)
    (hlen : s.pl.length = s.cs.length) (hin : ∀ i, i < s.pl.length → 0 ≤ s.pl.getD i 0 ∧ s.pl.getD i 0 < (rs.length : Int)) :
    Calls Try.prog 66 #[pv, .slice rA rs.length rc, sv] w fun r w' => ∃ v, r = .returned v ∧ Rw m3C 3 w' w.heap.size 128 v (mkT ch rs s s.pl.length) ∧ Below w.heap.size w w' := by
  replace hP := hP.clip
  replace hR := hR.clip
  obtain ⟨rn, hrl⟩ : ∃ rn, rs.length = rn := ⟨_, rfl⟩
  rw [hrl] at hin ⊢
  have HRL := Lib.hid hrl
  have HIN := Lib.hid hin
  have HLEN := Lib.hid hlen
  obtain ⟨A, A2, c, c2, hsv, h1, h2, h3, h4⟩ := hS
  replace h1 := h1.clip
  replace h2 := h2.clip
  obtain ⟨n, hnn⟩ : ∃ n, s.pl.length = n := ⟨_, rfl⟩
  rw [hnn] at hsv hn h3 ⊢
  have HN := Lib.hid hnn
  subst hsv
  simp only [Sq.is]
  obtain ⟨n2, hn2⟩ : ∃ n2, s.cs.length = n2 := ⟨_, rfl⟩
  rw [hn2] at h4 ⊢
  have HN2 := Lib.hid hn2
  obtain ⟨pA, pc, rfl, hPr, hPn⟩ := hP
  obtain ⟨pn, hpn⟩ : ∃ pn, ch.length = pn := ⟨_, rfl⟩
  rw [hpn] at hPn ⊢
  have HPN := Lib.hid hpn
  clear hrl hin hlen hnn hn2 hpn
  obtain ⟨W1, hW1⟩ : ∃ W1, (w.alloc (.cells #[.int .u8 rest, .slice pA pn pc] 52)).alloc (.cells #[.slice A n c, .slice A2 n2 c2, .int .i8 s.lv, .int .u8 s.so, .int .u8 s.eo] 35) = W1 := ⟨_, rfl⟩
  have b1 : Below w.heap.size w W1 := by rw [← hW1]; exact ((Below.refl _ w).alloc (Nat.le_refl _) _).alloc (by simp) _
  have X3 : Blk W1 w.heap.size 52 #[.int .u8 rest, .slice pA pn pc] := by rw [← hW1]; exact (Blk.new w 52 _).alloc _
  have X5 : Blk W1 (w.heap.size + 1) 35 #[.slice A n c, .slice A2 n2 c2, .int .i8 s.lv, .int .u8 s.so, .int .u8 s.eo] := by rw [← hW1]; exact Blk.at_ (by simp)
  have hP1 : PropsIs W1 w.heap.size (.agg #[.int .u8 rest, .slice pA pn pc]) rest ch := ⟨pA, pc, by rw [HPN.out], hPr.below b1 (.inl (Nat.le_refl _)), by rw [HPN.out]; exact hPn⟩
  have HW1 := Lib.hid hW1
  obtain ⟨D, hD⟩ : ∃ D, W1.heap.size = D := ⟨_, rfl⟩
  have hwD : w.heap.size + 1 < D := by rw [← hD]; exact X5.lt
  clear hW1
  go_enter Try.func66, Try.ntmps66
  go_upto_region 1 with (fail)
  rw [HW1.out]
  go_wp2
  go_loopg [7, 8] n (fun gk ov kv wr => ∃ (k : Nat), k + gk = n ∧ kv = .int .i64 k ∧ Rw m3C 3 wr W1.heap.size 128 ov (mkT ch rs s k) ∧ Below W1.heap.size W1 wr)
  case atStart => exact ⟨0, by omega, rfl, Rw.nil _ _ _, Below.refl _ _⟩
  case round =>
    obtain ⟨k, hk, rfl, R, bb⟩ := hrel
    have HK := Lib.hid hk
    have HD := Lib.hid hD
    clear hk hD
    have hsz := bb.size
    have hszD : D ≤ wr.heap.size := by have := HD.out; omega
    have X3w := X3.below bb X3.lt
    have X5w := X5.below bb X5.lt
    obtain ⟨x0, x1, x2, x3, x4, xf, xl⟩ := X5w.c5
    obtain ⟨y0, y1, yf, yl⟩ := X3w.c2
    by_cases hlt : k < n
    · have hPw := hP1.below bb (.inr (Nat.le_refl _))
      obtain ⟨ab, ao, rfl, a1, a2, ca⟩ := ((h1.below b1 (.inl (Nat.le_refl _))).below bb (.inr (Nat.le_refl _))).at_ (i := k) (by have := HN.out; omega)
      obtain ⟨cb, co, rfl, d1, d2, cc⟩ := ((h2.below b1 (.inl (Nat.le_refl _))).below bb (.inr (Nat.le_refl _))).at_ (i := k) (by have := HN.out; have := HLEN.out; omega)
      have hmk := HIN.out k (by have := HN.out; omega)
      have hstep := mkT_succ (ch := ch) (rs := rs) (s := s) k
      have hm1 : mk1 ch rs s k = if s.cs.getD k 0 = 14 then
          (if (brL ch (runC (rs.getD (s.pl.getD k 0).toNat 0))).2 = 1 then [⟨k, 1, twL ch (brL ch (runC (rs.getD (s.pl.getD k 0).toNat 0))).1⟩] else if (brL ch (runC (rs.getD (s.pl.getD k 0).toNat 0))).2 = 2 then [⟨k, 2, twL ch (runC (rs.getD (s.pl.getD k 0).toNat 0))⟩] else []) else [] := rfl
      obtain ⟨a, ha⟩ : ∃ a : Nat, s.pl.getD k 0 = a := ⟨(s.pl.getD k 0).toNat, by omega⟩
      obtain ⟨cl, hcl⟩ : ∃ cl, s.cs.getD k 0 = cl := ⟨_, rfl⟩
      rw [ha] at ca hmk hm1
      rw [hcl] at cc hm1
      have har : a < rn := by omega
      obtain ⟨rb, ro, rfl, r1, r2, cr⟩ := ((hR.below b1 (.inl (Nat.le_refl _))).below bb (.inr (Nat.le_refl _))).at_ (i := a) (by have := HRL.out; omega)
      obtain ⟨r0, hr0⟩ : ∃ r0, rs.getD a 0 = r0 := ⟨_, rfl⟩
      rw [Int.toNat_natCast, hr0] at hm1
      rw [hr0] at cr
      obtain ⟨ru, hru⟩ : ∃ ru, runC r0 = ru := ⟨_, rfl⟩
      rw [hru] at hm1
      have CP : ∀ W, Calls Try.prog 72 #[.int .i32 r0] W fun e w' => e = .returned (.int .i32 ru) ∧ w' = W := fun W => by rw [← hru]; exact rRune_ok W r0
      obtain ⟨ot, hot⟩ : ∃ ot, (brL ch ru).1 = ot := ⟨_, rfl⟩
      obtain ⟨sd, hsd⟩ : ∃ sd, (brL ch ru).2 = sd := ⟨_, rfl⟩
      have CB := brack_ok ru hPw
      rw [hot, hsd] at CB hm1
      have hkn : n2 = n := by have := HN.out; have := HN2.out; have := HLEN.out; omega
      have hk2 : k < n2 := by omega
      have hlm := mkT_len ch rs s k
      obtain ⟨M, hM⟩ : ∃ M, mkT ch rs s k = M := ⟨_, rfl⟩
      rw [hM] at R hstep hlm
      have HM1 := Lib.hid hm1
      have HST := Lib.hid hstep
      clear hm1 hstep hot hsd hru hr0 hmk ha hcl hkn hM
      obtain ⟨oA, oc, rfl, _, _, _⟩ := R.val
      obtain ⟨ml, hml⟩ : ∃ ml, M.length = ml := ⟨_, rfl⟩
      rw [hml] at R hlm ⊢
      have HML := Lib.hid hml
      clear hml
      by_cases hc14 : cl = 14
      · have hcc : (cl != 14) = false := by simpa using hc14
        by_cases hs1 : sd = 1
        · subst hs1
          have hm2 : mk1 ch rs s k = [⟨k, 1, twL ch ot⟩] := by rw [HM1.out, if_pos hc14, if_pos rfl]
          obtain ⟨ky, hky⟩ : ∃ ky, twL ch ot = ky := ⟨_, rfl⟩
          rw [hky] at hm2
          have HM2 := Lib.hid hm2
          have CT : ∀ W, Below wr.heap.size wr W → Calls Try.prog 61 #[.agg #[.int .u8 rest, .slice pA pn pc], .int .i32 ot] W fun e w' => e = .returned (.int .i32 ky) ∧ Below W.heap.size W w' := fun W hb => by rw [← hky]; exact twin_ok ot (hPw.below hb (.inr (Nat.le_refl _)))
          clear hm2 hky
          go_wp2_with (first
            | (go_at_call 72; refine (CP _).mono ?_; rintro r3 w3 ⟨rfl, rfl⟩)
            | (go_at_call 58; refine CB.mono ?_; rintro r4 w4 ⟨rfl, b4⟩; have X34 := X3w.below b4 yl; obtain ⟨z0, z1, zf, zl⟩ := X34.c2)
            | (go_at_call 61; refine (CT _ b4).mono ?_; rintro r5 w5 ⟨rfl, b5⟩; have R5 := (R.below b4 (Nat.le_refl _)).below b5 (Nat.le_refl _))
            | (at_builtin; go_must (refine wpList_appR (y := (⟨k, 1, ky⟩ : Mk)) enc3 et3 rfl rfl rfl (R5.alloc _) rfl (Blk.at_ (by simp)) rfl ?_ ?_ ?_ ?_)))
          · have := HML.out; unfold maxLen; omega
          · have := HML.out; omega
          · have := b4.size; have := b5.size; simp; omega
          intro g cap w6 R6 g6 hg
          have b6 : Below W1.heap.size W1 w6 := ((bb.trans (b4.mono hsz)).trans (b5.mono (by have := b4.size; omega))).alloc (by have := b4.size; have := b5.size; omega) _ |>.grown g6 (by have := b4.size; have := b5.size; simp; omega) (fun j e => (R.lt j e).1)
          have HR6 : Rw m3C 3 w6 W1.heap.size 128 (.slice (some ⟨g, 0, none⟩) (M.length + 1) cap) (mkT ch rs s (k + 1)) := by rw [HST.out, HM2.out]; exact R6
          clear R6 g6 hg
          go_wp2
          go_roundg (n - (k + 1))
          case rel => exact ⟨k + 1, by have := HK.out; omega, by go_num, HR6, b6⟩
          case measure => have := HK.out; omega
        · by_cases hs2 : sd = 2
          · subst hs2
            have hm2 : mk1 ch rs s k = [⟨k, 2, twL ch ru⟩] := by rw [HM1.out, if_pos hc14, if_neg (by decide), if_pos rfl]
            obtain ⟨ky, hky⟩ : ∃ ky, twL ch ru = ky := ⟨_, rfl⟩
            rw [hky] at hm2
            have HM2 := Lib.hid hm2
            have CT : ∀ W, Below wr.heap.size wr W → Calls Try.prog 61 #[.agg #[.int .u8 rest, .slice pA pn pc], .int .i32 ru] W fun e w' => e = .returned (.int .i32 ky) ∧ Below W.heap.size W w' := fun W hb => by rw [← hky]; exact twin_ok ru (hPw.below hb (.inr (Nat.le_refl _)))
            clear hm2 hky
            go_wp2_with (first
              | (go_at_call 72; refine (CP _).mono ?_; rintro r3 w3 ⟨rfl, rfl⟩)
              | (go_at_call 58; refine CB.mono ?_; rintro r4 w4 ⟨rfl, b4⟩; have X34 := X3w.below b4 yl; obtain ⟨z0, z1, zf, zl⟩ := X34.c2)
              | (go_at_call 61; refine (CT _ b4).mono ?_; rintro r5 w5 ⟨rfl, b5⟩; have R5 := (R.below b4 (Nat.le_refl _)).below b5 (Nat.le_refl _))
              | (at_builtin; go_must (refine wpList_appR (y := (⟨k, 2, ky⟩ : Mk)) enc3 et3 rfl rfl rfl (R5.alloc _) rfl (Blk.at_ (by simp)) rfl ?_ ?_ ?_ ?_)))
            · have := HML.out; unfold maxLen; omega
            · have := HML.out; omega
            · have := b4.size; have := b5.size; simp; omega
            intro g cap w6 R6 g6 hg
            have b6 : Below W1.heap.size W1 w6 := ((bb.trans (b4.mono hsz)).trans (b5.mono (by have := b4.size; omega))).alloc (by have := b4.size; have := b5.size; omega) _ |>.grown g6 (by have := b4.size; have := b5.size; simp; omega) (fun j e => (R.lt j e).1)
            have HR6 : Rw m3C 3 w6 W1.heap.size 128 (.slice (some ⟨g, 0, none⟩) (M.length + 1) cap) (mkT ch rs s (k + 1)) := by rw [HST.out, HM2.out]; exact R6
            clear R6 g6 hg
            go_wp2
            go_roundg (n - (k + 1))
            case rel => exact ⟨k + 1, by have := HK.out; omega, by go_num, HR6, b6⟩
            case measure => have := HK.out; omega
          · have e1 : (sd == 1) = false := by simpa using hs1
            have e2 : (sd == 2) = false := by simpa using hs2
            go_wp2_with (first
              | (go_at_call 72; refine (CP _).mono ?_; rintro r3 w3 ⟨rfl, rfl⟩)
              | (go_at_call 58; refine CB.mono ?_; rintro r4 w4 ⟨rfl, b4⟩; have X34 := X3w.below b4 yl; obtain ⟨z0, z1, zf, zl⟩ := X34.c2))
            go_roundg (n - (k + 1))
            case rel => exact ⟨k + 1, by have := HK.out; omega, by go_num, by rw [HST.out, HM1.out, if_pos hc14, if_neg hs1, if_neg hs2, List.append_nil]; exact R.below b4 (Nat.le_refl _), bb.trans (b4.mono hsz)⟩
            case measure => have := HK.out; omega
      · have hcc : (cl != 14) = true := by simpa using hc14
        go_wp2
        go_roundg (n - (k + 1))
        case rel => exact ⟨k + 1, by have := HK.out; omega, by go_num, by rw [HST.out, HM1.out, if_neg hc14, List.append_nil]; exact R, bb⟩
        case measure => have := HK.out; omega
    · have hkn : k = n := by have := HK.out; omega
      subst hkn
      go_wp2
      go_ret
      exact ⟨_, rfl, R.base (fun j e => by have := (R.lt j e).1; have := HD.out; omega), b1.trans (bb.mono (by have := b1.size; omega))⟩
end Go.Proofs.Ytpdackbcnbhppaa
