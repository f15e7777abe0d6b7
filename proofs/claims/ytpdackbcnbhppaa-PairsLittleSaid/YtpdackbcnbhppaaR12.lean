/- pairs.Find walked. -/
import Derived.Test.YtpdackbcnbhppaaR11
import Derived.WalkMore
namespace Go.Proofs.Ytpdackbcnbhppaa
open Go.RowKit
attribute [local go_sem] Oper.semAt_some

@[go_sem] theorem meth_brack (w : World) (pv : Value) : (method 305 52 pv "Bracket").run Try.prog w = .ok (58, pv) w := by kernel_rfl
@[go_sem] theorem meth_twin (w : World) (pv : Value) : (method 305 52 pv "Twin").run Try.prog w = .ok (61, pv) w := by kernel_rfl
theorem BrsAt.base {W : World} {B B' : Nat} {v : Value} {D : List (Int × Int)} (h : BrsAt W B v D) (hB : B' ≤ B) : BrsAt W B' v D := by
  rcases h with h | ⟨g, cap, h1, h2, h3, h4⟩
  · exact .inl h
  · exact .inr ⟨g, cap, h1, h2, Nat.le_trans hB h3, h4⟩
theorem Reads.clip {w : World} {B size n : Nat} {A : Option Addr} {xs : List Value} (h : Reads w B size A n xs) : Reads w w.heap.size size A n xs :=
  ⟨h.1, fun h0 => by obtain ⟨b, off, e, _, h2, h3⟩ := h.2 h0; exact ⟨b, off, e, h2, h2, h3⟩⟩
theorem RdInts.clip {w : World} {B : Nat} {k : IntKind} {A : Option Addr} {l : List Int} (h : RdInts w B k A l) : RdInts w w.heap.size k A l := Reads.clip h
theorem RdR.clip {α : Type} {c : α → List Value} {sz : Nat} {w : World} {B : Nat} {A : Option Addr} {l : List α} (h : RdR c sz w B A l) : RdR c sz w w.heap.size A l := Reads.clip h
theorem PropsIs.clip {w : World} {B : Nat} {pv : Value} {rest : Int} {L : List Chr} (h : PropsIs w B pv rest L) : PropsIs w w.heap.size pv rest L := by
  obtain ⟨A, c, h1, h2, h3⟩ := h
  exact ⟨A, c, h1, h2.clip, h3⟩

set_option maxRecDepth 100000 in
set_option maxHeartbeats 4000000 in
theorem PFind_ok {w : World} {Bp Br Bs rc : Nat} {pv sv : Value} {rest : Int} {ch : List Chr} {rA : Option Addr} {rs : List Int} {s : Sq} (hP : PropsIs w Bp pv rest ch) (hR : RdInts w Br .i32 rA rs) (hS : SqIs w Bs sv s) (hn : s.pl.length ≤ 1048576) (hrn : rs.length ≤ 4611686018427387904) :
    Calls Try.prog 29 #[.iface 52 pv, .slice rA rs.length rc, sv] w fun r w' => ∃ v, r = .returned (.tuple #[v, .int .i64 (mayL rs.length s)]) ∧ BrsAt w' w.heap.size v (findF ch rs s) ∧ Below w.heap.size w w' := by
  replace hP := hP.clip
  replace hR := hR.clip
  obtain ⟨F, hF⟩ : ∃ F, findF ch rs s = F := ⟨_, rfl⟩
  obtain ⟨m, hm⟩ : ∃ m, mayL rs.length s = m := ⟨_, rfl⟩
  obtain ⟨rn, hrl⟩ : ∃ rn, rs.length = rn := ⟨_, rfl⟩
  rw [hF, hm, hrl]
  rw [hrl] at hm hrn
  have HRL := Lib.hid hrl
  have HM := Lib.hid hm
  have HFF := Lib.hid hF
  have CM : ∀ W, Frm (fun _ => False) w W → Calls Try.prog 63 #[.iface 52 pv, .int .i64 rn, sv] W fun r w' => r = .returned (.int .i64 m) ∧ Below W.heap.size W w' := fun W hF => by rw [← hm]; exact may_ok (hS.frm hF) 52 pv hrn
  obtain ⟨A, A2, c, c2, hsv, h1, h2, h3, h4⟩ := hS
  replace h1 := h1.clip
  replace h2 := h2.clip
  obtain ⟨n, hnn⟩ : ∃ n, s.pl.length = n := ⟨_, rfl⟩
  rw [hnn] at hsv hn h3
  have HN := Lib.hid hnn
  subst hsv
  simp only [Sq.is] at CM ⊢
  obtain ⟨W1, hW1⟩ : ∃ W1, w.alloc (.cells #[.slice A n c, .slice A2 s.cs.length c2, .int .i8 s.lv, .int .u8 s.so, .int .u8 s.eo] 35) = W1 := ⟨_, rfl⟩
  have F1 : Frm (fun _ => False) w W1 := by rw [← hW1]; exact (Frm.refl _ w).alloc _
  have X5 : Blk W1 w.heap.size 35 #[.slice A n c, .slice A2 s.cs.length c2, .int .i8 s.lv, .int .u8 s.so, .int .u8 s.eo] := by rw [← hW1]; exact Blk.new w 35 _
  have HW1 := Lib.hid hW1
  have CM1 := CM W1 F1
  clear hF hm hrl hnn hW1 CM
  obtain ⟨n2, hn2⟩ : ∃ n2, s.cs.length = n2 := ⟨_, rfl⟩
  rw [hn2] at X5 h4 HW1 CM1 ⊢
  obtain ⟨x0, x1, x2, x3, x4, xf, xl⟩ := X5.c5
  have HN2 := Lib.hid hn2
  clear hn2
  by_cases hm0 : m = 0
  · subst hm0
    have hmz := may_zero HM.out
    have CM2 := CM1
    go_enter Try.func29, Try.ntmps29
    go_wp2
    go_step3
    go_upto_region 1 with (fail)
    rw [HW1.out]
    go_wp2_with (first
      | (go_at_call 63; refine CM1.mono ?_; rintro r1 w1 ⟨rfl, b1⟩)
      | (go_at_call 40; refine PNew_ok.mono ?_; rintro r2 w2 ⟨rfl, P2, b2⟩))
    have hbp : w.heap.size < w1.heap.size := by have := b1.size; have := X5.lt; omega
    have X51 := (X5.below b1 X5.lt).below b2 hbp
    have FV : Frm (fun _ => False) w w2 := (F1.trans (Frm.of_below b1) (fun _ _ h => h)).trans (Frm.of_below b2) (fun _ _ h => h)
    have hPv := hP.frm FV
    have hRv := RdInts.frmA hR FV (fun _ _ _ => id)
    have h1v := RdInts.frmA h1 FV (fun _ _ _ => id)
    have h2v := RdInts.frmA h2 FV (fun _ _ _ => id)
    obtain ⟨bp, hbpe⟩ : ∃ bp, w1.heap.size = bp := ⟨_, rfl⟩
    rw [hbpe] at P2 b2 hbp ⊢
    have HBP := Lib.hid hbpe
    clear hbpe x0 x1 x2 x3 x4 xf xl X5 CM1 hP hR h1 h2 b2 b1
    obtain ⟨x0, x1, x2, x3, x4, xf, xl⟩ := X51.c5
    have hPs : bp < w2.heap.size := P2.blk.lt
    obtain ⟨V, rfl⟩ : ∃ V, V = w2 := ⟨_, rfl⟩
    go_step3
    go_wp2
    have HMZ := Lib.hid hmz
    clear hmz
    go_loopg [27] n (fun gk kv wr => ∃ (k : Nat) (vl vf : Value) (l f : List (Int × Int)), k + gk = n ∧ kv = .int .i64 k ∧ fdT ch rs s k = ⟨l, f, false⟩ ∧ Pil wr bp bp vl vf l f false ∧ Below bp V wr)
    case atStart => exact ⟨0, _, _, [], [], by omega, rfl, rfl, P2, Below.refl _ _⟩
    case round =>
      clear P2 x0 x1 x2 x3 x4 xf xl
      obtain ⟨k, vl, vf, l, f, hk, rfl, hfd, P, bb⟩ := hrel
      have HK := Lib.hid hk
      have HFD := Lib.hid hfd
      have hok : PSok ⟨l, f, false⟩ k := hfd ▸ fdT_ok ch rs s k
      have hl63 : l.length ≤ 63 := hok.1
      have hfk : f.length ≤ k := hok.2.1
      clear hk hfd hok
      have hsz := bb.size
      by_cases hlt : k < n
      · have hPw := hPv.below bb (.inl (Nat.le_of_lt hbp))
        have hck := HMZ.out.1
        have hlen := (chk_pos hck).2
        obtain ⟨ab, ao, rfl, a1, a2, ca⟩ := (h1v.below bb (.inl (Nat.le_of_lt hbp))).at_ (i := k) (by have := HN.out; omega)
        obtain ⟨cb, co, rfl, d1, d2, cc⟩ := (h2v.below bb (.inl (Nat.le_of_lt hbp))).at_ (i := k) (by have := HN.out; omega)
        have hmk := (HMZ.out).2 k (by have := HN.out; omega)
        have hstep := fdT_succ ch rs s k
        rw [HFD.out] at hstep
        have hm1 : mk1 ch rs s k = if s.cs.getD k 0 = 14 then
            (if (brL ch (runC (rs.getD (s.pl.getD k 0).toNat 0))).2 = 1 then [⟨k, 1, twL ch (brL ch (runC (rs.getD (s.pl.getD k 0).toNat 0))).1⟩] else if (brL ch (runC (rs.getD (s.pl.getD k 0).toNat 0))).2 = 2 then [⟨k, 2, twL ch (runC (rs.getD (s.pl.getD k 0).toNat 0))⟩] else []) else [] := rfl
        obtain ⟨a, ha⟩ : ∃ a : Nat, s.pl.getD k 0 = a := ⟨(s.pl.getD k 0).toNat, by omega⟩
        obtain ⟨cl, hcl⟩ : ∃ cl, s.cs.getD k 0 = cl := ⟨_, rfl⟩
        rw [ha] at ca hmk hm1
        rw [hcl] at cc hm1
        have har : a < rn := by omega
        obtain ⟨rb, ro, rfl, r1, r2, cr⟩ := (hRv.below bb (.inl (Nat.le_of_lt hbp))).at_ (i := a) (by have := HRL.out; omega)
        obtain ⟨r0, hr0⟩ : ∃ r0, rs.getD a 0 = r0 := ⟨_, rfl⟩
        rw [Int.toNat_natCast, hr0] at hm1
        rw [hr0] at cr
        obtain ⟨ru, hru⟩ : ∃ ru, runC r0 = ru := ⟨_, rfl⟩
        rw [hru] at hm1
        have CP : ∀ W, Calls Try.prog 64 #[.int .i32 r0] W fun e w' => e = .returned (.int .i32 ru) ∧ w' = W := fun W => by rw [← hru]; exact plain_ok W r0
        obtain ⟨ot, hot⟩ : ∃ ot, (brL ch ru).1 = ot := ⟨_, rfl⟩
        obtain ⟨sd, hsd⟩ : ∃ sd, (brL ch ru).2 = sd := ⟨_, rfl⟩
        have CB := brack_ok ru hPw
        rw [hot, hsd] at CB hm1
        have hkn : n2 = n := by have := HN.out; have := HN2.out; omega
        have HM1 := Lib.hid hm1
        have HST := Lib.hid hstep
        have X5 := X51.below bb hbp
        obtain ⟨x0, x1, x2, x3, x4, xf, xl⟩ := X5.c5
        clear hm1 hstep hot hsd hru hr0 hmk ha hcl hlen hck
        have hk2 : k < n2 := by omega
        clear hkn
        by_cases hc14 : cl = 14
        · have hcc : (cl != 14) = false := by simpa using hc14
          by_cases hs1 : sd = 1
          · subst hs1
            have hm2 : mk1 ch rs s k = [⟨k, 1, twL ch ot⟩] := by rw [HM1.out, if_pos hc14, if_pos rfl]
            have HM2 := Lib.hid hm2
            obtain ⟨ky, hky⟩ : ∃ ky, twL ch ot = ky := ⟨_, rfl⟩
            have hnx : fdT ch rs s (k + 1) = ⟨opL l false k ky, f, opV l false⟩ := by
              rw [HST.out, HM2.out, hky]
              show stpM ⟨l, f, false⟩ ⟨k, 1, ky⟩ = _
              unfold stpM
              rw [if_neg (fun h => by cases h), if_pos rfl]
            have HNX := Lib.hid hnx
            have CT : ∀ W, Below wr.heap.size wr W → Calls Try.prog 61 #[pv, .int .i32 ot] W fun e w' => e = .returned (.int .i32 ky) ∧ Below W.heap.size W w' := fun W hb => by rw [← hky]; exact twin_ok ot (hPw.below hb (.inr (Nat.le_refl _)))
            have CO : ∀ W, Below wr.heap.size wr W → _ := fun W hb => Popen_ok k ky (P.below hb (Nat.le_refl _))
            by_cases hov : opV l false = true
            · have he : opE l false = 3 := by unfold opE; rw [if_pos hov]
              rw [he] at CO
              rw [hov] at HNX CO
              clear hm2 hnx hky he hov
              go_wp2_with (first
                | (go_at_call 64; refine (CP _).mono ?_; rintro r3 w3 ⟨rfl, rfl⟩)
                | (go_at_call 58; refine CB.mono ?_; rintro r4 w4 ⟨rfl, b4⟩)
                | (go_at_call 61; refine (CT _ b4).mono ?_; rintro r5 w5 ⟨rfl, b5⟩)
                | (go_at_call 43; refine (CO _ (b4.trans (b5.mono b4.size))).mono ?_; rintro r6 w6 ⟨rfl, vl', P6, F6, hv6⟩; have hfF : F = ssort f := by { rw [← HFF.out]; unfold findF; rw [HRL.out, HM.out, if_pos rfl, HN.out]; have e := fdT_over (ch := ch) (rs := rs) (s := s) (k := k + 1) (by rw [HNX.out]) (n - (k + 1)); rw [show k + 1 + (n - (k + 1)) = n from by omega] at e; rw [e, HNX.out] })
                | (go_at_call 46; refine (Pbraces_ok P6 (by omega)).mono ?_; rintro r7 w7 ⟨v7, rfl, Q7, b7⟩))
              rw [Exit.noGoto_ret]
              have hb6 : Below bp w3 w6 := ((b4.mono (by omega)).trans (b5.mono (by have := b4.size; omega))).trans (F6.below (by have := b4.size; have := b5.size; omega) (fun i hi e => by have := (P.lt i e).1; omega))
              have hb7 : Below w.heap.size w w7 := ((FV.below (Nat.le_refl _) (fun _ _ => id)).trans ((bb.trans hb6).mono (Nat.le_of_lt hbp))).trans (b7.mono (by have := hb6.size; omega))
              go_ret2
              exact ⟨v7, rfl, by rw [hfF]; exact Q7.base (by have := hb6.size; omega), hb7⟩
            · have hov2 : opV l false = false := by simpa using hov
              have he : opE l false = 0 := by unfold opE; rw [if_neg hov]
              rw [he] at CO
              rw [hov2] at HNX CO
              clear hm2 hnx hky he hov hov2
              go_wp2_with (first
                | (go_at_call 64; refine (CP _).mono ?_; rintro r3 w3 ⟨rfl, rfl⟩)
                | (go_at_call 58; refine CB.mono ?_; rintro r4 w4 ⟨rfl, b4⟩)
                | (go_at_call 61; refine (CT _ b4).mono ?_; rintro r5 w5 ⟨rfl, b5⟩)
                | (go_at_call 43; refine (CO _ (b4.trans (b5.mono b4.size))).mono ?_; rintro r6 w6 ⟨rfl, vl', P6, F6, hv6⟩))
              have hb6 : Below bp w3 w6 := ((b4.mono (by omega)).trans (b5.mono (by have := b4.size; omega))).trans (F6.below (by have := b4.size; have := b5.size; omega) (fun i hi e => by have := (P.lt i e).1; omega))
              go_roundg (n - (k + 1))
              case rel => exact ⟨k + 1, vl', _, _, _, by have := HK.out; omega, by go_num, HNX.out, P6, bb.trans hb6⟩
              case measure => have := HK.out; omega
          · by_cases hs2 : sd = 2
            · subst hs2
              have hm2 : mk1 ch rs s k = [⟨k, 2, twL ch ru⟩] := by rw [HM1.out, if_pos hc14, if_neg (by decide), if_pos rfl]
              have HM2 := Lib.hid hm2
              obtain ⟨ky, hky⟩ : ∃ ky, twL ch ru = ky := ⟨_, rfl⟩
              have hnx : fdT ch rs s (k + 1) = ⟨clL l ky, clF l f k ky, false⟩ := by
                rw [HST.out, HM2.out, hky]
                show stpM ⟨l, f, false⟩ ⟨k, 2, ky⟩ = _
                unfold stpM
                rw [if_neg (fun h => by cases h), if_neg (fun (h : (2 : Int) = 1) => by omega)]
              have HNX := Lib.hid hnx
              have CT : ∀ W, Below wr.heap.size wr W → Calls Try.prog 61 #[pv, .int .i32 ru] W fun e w' => e = .returned (.int .i32 ky) ∧ Below W.heap.size W w' := fun W hb => by rw [← hky]; exact twin_ok ru (hPw.below hb (.inr (Nat.le_refl _)))
              have CO : ∀ W, Below wr.heap.size wr W → _ := fun W hb => Pclose_live k ky (P.below hb (Nat.le_refl _)) (by omega) (by omega)
              clear hm2 hnx hky
              go_wp2_with (first
                | (go_at_call 64; refine (CP _).mono ?_; rintro r3 w3 ⟨rfl, rfl⟩)
                | (go_at_call 58; refine CB.mono ?_; rintro r4 w4 ⟨rfl, b4⟩)
                | (go_at_call 61; refine (CT _ b4).mono ?_; rintro r5 w5 ⟨rfl, b5⟩)
                | (go_at_call 41; refine (CO _ (b4.trans (b5.mono b4.size))).mono ?_; rintro r6 w6 ⟨rfl, vl', vf', P6, F6, hv6, hf6⟩))
              have hb6 : Below bp w3 w6 := ((b4.mono (by omega)).trans (b5.mono (by have := b4.size; omega))).trans (F6.below (by have := b4.size; have := b5.size; omega) (fun i hi e => by have := (P.lt i e).1; omega))
              go_roundg (n - (k + 1))
              case rel => exact ⟨k + 1, vl', _, _, _, by have := HK.out; omega, by go_num, HNX.out, P6, bb.trans hb6⟩
              case measure => have := HK.out; omega
            · have e1 : (sd == 1) = false := by simpa using hs1
              have e2 : (sd == 2) = false := by simpa using hs2
              go_wp2_with (first
                | (go_at_call 64; refine (CP _).mono ?_; rintro r3 w3 ⟨rfl, rfl⟩)
                | (go_at_call 58; refine CB.mono ?_; rintro r4 w4 ⟨rfl, b4⟩))
              go_roundg (n - (k + 1))
              case rel => exact ⟨k + 1, vl, vf, l, f, by have := HK.out; omega, by go_num, by rw [HST.out, HM1.out, if_pos hc14, if_neg hs1, if_neg hs2]; rfl, P.below b4 (Nat.le_refl _), bb.trans (b4.mono (by omega))⟩
              case measure => have := HK.out; omega
        · have hcc : (cl != 14) = true := by simpa using hc14
          go_wp2
          go_roundg (n - (k + 1))
          case rel => exact ⟨k + 1, vl, vf, l, f, by have := HK.out; omega, by go_num, by rw [HST.out, HM1.out, if_neg hc14]; rfl, P, bb⟩
          case measure => have := HK.out; omega
      · have hkn : k = n := by have := HK.out; omega
        subst hkn
        have hF : F = ssort f := by rw [← HFF.out]; unfold findF; rw [HRL.out, HM.out, if_pos rfl, HN.out, HFD.out]
        have CB := Pbraces_ok P (by omega)
        go_wp2_with (go_at_call 46; refine CB.mono ?_; rintro r5 w5 ⟨v5, rfl, Q5, b5⟩)
        rw [Exit.noGoto_ret]
        go_ret2
        exact ⟨v5, rfl, by rw [hF]; exact Q5.base (by omega), ((FV.below (Nat.le_refl _) (fun _ _ => id)).trans (bb.mono (Nat.le_of_lt hbp))).trans (b5.mono (by omega))⟩
  · have hm1 : (m != 0) = true := by simpa using hm0
    have hf : F = [] := by rw [← HFF.out]; unfold findF; rw [if_neg (by rw [HRL.out, HM.out]; exact hm0)]
    go_enter Try.func29, Try.ntmps29
    go_wp2
    go_step3
    go_upto_region 1 with (fail)
    rw [HW1.out]
    go_wp2_with (go_at_call 63; refine CM1.mono ?_; rintro r1 w1 ⟨rfl, b1⟩)
    rw [Exit.noGoto_ret]
    go_ret2
    exact ⟨_, rfl, .inl ⟨rfl, hf⟩, (F1.below (Nat.le_refl _) (fun _ _ => id)).trans (b1.mono (Nat.le_of_lt X5.lt))⟩
end Go.Proofs.Ytpdackbcnbhppaa
