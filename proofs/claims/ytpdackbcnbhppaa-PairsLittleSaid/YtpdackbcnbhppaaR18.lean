/- pairs.Resolve walked. -/
import Derived.Test.YtpdackbcnbhppaaR17
import Derived.Deep.RegionHeld3
namespace Go.Proofs.Ytpdackbcnbhppaa
open Go.RowKit
attribute [local go_sem] Oper.semAt_some

theorem BrsAt.rd {W : World} {B : Nat} {v : Value} {D : List (Int × Int)} (h : BrsAt W B v D) : ∃ A c, v = .slice A D.length c ∧ RdR brC 2 W W.heap.size A D := by
  rcases h with ⟨rfl, rfl⟩ | ⟨g, cap, rfl, h2, _⟩
  · exact ⟨none, 0, rfl, Reads.none_⟩
  · exact ⟨some ⟨g, 0, none⟩, cap, rfl, h2.rd⟩
/-- A sequence of the call's own, as a value. -/
def SqOwn (W : World) (B : Nat) (v : Value) (s : Sq) : Prop := ∃ pv cv, v = .agg (s.is pv cv) ∧ Ints W B 3 .i64 pv s.pl ∧ Ints W B 28 .u8 cv s.cs ∧ ∀ j, pv.ownBlock = some j → cv.ownBlock ≠ some j

set_option maxRecDepth 100000 in
set_option maxHeartbeats 4000000 in
theorem PResolve_ok {w : World} {Bp Br Bf Bs rc fc : Nat} {pv sv : Value} {rest : Int} {ch : List Chr} {rA fA : Option Addr} {rs fs : List Int} {s : Sq} (hP : PropsIs w Bp pv rest ch) (hR : RdInts w Br .i32 rA rs) (hFs : RdInts w Bf .u8 fA fs) (hS : SqIs w Bs sv s) (hn : s.pl.length ≤ 1048576) (hrn : rs.length ≤ 4611686018427387904) (hfn : fs.length ≤ 4611686018427387904) :
    Calls Try.prog 33 #[.iface 52 pv, .slice rA rs.length rc, .slice fA fs.length fc, sv] w fun r w' => ∃ v, r = .returned (.tuple #[v, .int .i64 (resE rs.length fs.length s)]) ∧ SqOwn w' w.heap.size v (resS ch rs fs s) ∧ Below w.heap.size w w' := by
  have CF : ∀ W, Frm (fun _ => False) w W → Calls Try.prog 29 #[.iface 52 pv, .slice rA rs.length rc, sv] W fun r w' => ∃ v, r = .returned (.tuple #[v, .int .i64 (mayL rs.length s)]) ∧ BrsAt w' W.heap.size v (findF ch rs s) ∧ Below W.heap.size W w' :=
    fun W hF => PFind_ok (hP.frm hF) (RdInts.frmA hR hF (fun _ _ _ => id)) (hS.frm hF) hn hrn
  replace hFs := hFs.clip
  obtain ⟨E, hE⟩ : ∃ E, resE rs.length fs.length s = E := ⟨_, rfl⟩
  obtain ⟨S, hSS⟩ : ∃ S, resS ch rs fs s = S := ⟨_, rfl⟩
  rw [hE, hSS]
  obtain ⟨m, hm⟩ : ∃ m, mayL rs.length s = m := ⟨_, rfl⟩
  obtain ⟨F, hF⟩ : ∃ F, findF ch rs s = F := ⟨_, rfl⟩
  obtain ⟨rn, hrl⟩ : ∃ rn, rs.length = rn := ⟨_, rfl⟩
  obtain ⟨fn, hfl⟩ : ∃ fn, fs.length = fn := ⟨_, rfl⟩
  rw [hm, hF, hrl] at CF
  rw [hrl, hfl]
  rw [hfl] at hfn
  have HE := Lib.hid hE
  have HSS := Lib.hid hSS
  have HM := Lib.hid hm
  have HF := Lib.hid hF
  have HRL := Lib.hid hrl
  have HFL := Lib.hid hfl
  clear hE hSS hm hF hrl hfl hP hR hrn
  obtain ⟨A, A2, c, c2, hsv, h1, h2, h3, h4⟩ := hS
  replace h1 := h1.clip
  replace h2 := h2.clip
  obtain ⟨n, hnn⟩ : ∃ n, s.pl.length = n := ⟨_, rfl⟩
  obtain ⟨n2, hn2⟩ : ∃ n2, s.cs.length = n2 := ⟨_, rfl⟩
  rw [hnn, hn2] at hsv
  rw [hnn] at hn h3
  have HN := Lib.hid hnn
  have HN2 := Lib.hid hn2
  subst hsv
  simp only [Sq.is] at CF ⊢
  clear hnn hn2
  obtain ⟨W1, hW1⟩ : ∃ W1, (w.alloc (.cells #[.slice A n c, .slice A2 n2 c2, .int .i8 s.lv, .int .u8 s.so, .int .u8 s.eo] 35)).alloc (.cells #[.slice none 0 0, .slice none 0 0, .int .i8 0, .int .u8 0, .int .u8 0] 35) = W1 := ⟨_, rfl⟩
  have F1 : Frm (fun _ => False) w W1 := by rw [← hW1]; exact ((Frm.refl _ w).alloc _).alloc _
  have X7 : Blk W1 w.heap.size 35 #[.slice A n c, .slice A2 n2 c2, .int .i8 s.lv, .int .u8 s.so, .int .u8 s.eo] := by rw [← hW1]; exact (Blk.new w 35 _).alloc _
  have X8 : Blk W1 (w.heap.size + 1) 35 #[.slice none 0 0, .slice none 0 0, .int .i8 0, .int .u8 0, .int .u8 0] := by rw [← hW1]; exact Blk.at_ (by simp)
  have CF1 := CF W1 F1
  have hsz1 : w.heap.size + 1 + 1 = W1.heap.size := by rw [← hW1]; simp
  have HW1 := Lib.hid hW1
  obtain ⟨x0, x1, x2, x3, x4, xf, xl⟩ := X7.c5
  clear hW1 CF
  by_cases hm0 : m = 0
  · subst hm0
    have hck := (may_zero HM.out).1
    have hp0 := (chk_pos hck).1
    have hEm : E = mayL fn s := by rw [← HE.out]; unfold resE; rw [HM.out, if_neg (fun h => h rfl), HFL.out]
    obtain ⟨ab, ao, rfl, a1, a2, ca⟩ := h1.at_ (i := n - 1) (by have := HN.out; omega)
    obtain ⟨q, hq⟩ : ∃ q, s.pl.getD (n - 1) 0 = q := ⟨_, rfl⟩
    rw [hq] at ca
    have hmay : mayL fn s = if (fn : Int) ≤ q then 2 else 0 := by unfold mayL; rw [if_neg (fun h => h hck), HN.out, hq]
    have hlast : IntKind.i64.wrap ((n : Int) - 1) = ((n - 1 : Nat) : Int) := by have := HN.out; rw [IntWalk.i64_in _ (by omega)]; omega
    have hpl : n - 1 < n := by have := HN.out; omega
    have HQ := Lib.hid hq
    have HCK := Lib.hid hck
    clear hq hck hp0
    by_cases hge : (fn : Int) ≤ q
    · have hE2 : E = 2 := by rw [hEm, hmay, if_pos hge]
      have hS2 : S = Sq.zero := by rw [← HSS.out]; unfold resS; rw [if_neg (by rw [HE.out, hE2]; omega)]
      subst hE2 hS2
      clear hEm hmay
      go_enter Try.func33, Try.ntmps33
      go_upto_region 1 with (fail)
      rw [HW1.out]
      go_wp2_with (go_at_call 29; refine CF1.mono ?_; rintro r1 w1 ⟨lv, rfl, L1, b1⟩; have X71 := X7.below b1 X7.lt; have X81 := X8.below b1 X8.lt; obtain ⟨y0, y1, y2, y3, y4, yf, yl⟩ := X71.c5; obtain ⟨z0, z1, z2, z3, z4, zf, zl⟩ := X81.c5; have hq1 : w1.cell? ⟨ab, ao + (n - 1), none⟩ = some (.int .i64 q) := ((bcell b1).1 ab _ (by omega)).trans (((bcell (F1.below (Nat.le_refl _) (fun _ _ => id))).1 ab _ a1).trans ca))
      have B8 := blk_put5 (.slice none 0 0) (.slice none 0 0) (.int .i8 0) (.int .u8 0) (.int .u8 0) X81
      have F8 := frm_put5 w1 (w.heap.size + 1) (.slice none 0 0) (.slice none 0 0) (.int .i8 0) (.int .u8 0) (.int .u8 0)
      generalize ((((w1.setCell ⟨w.heap.size + 1, 0, none⟩ (.slice none 0 0)).setCell ⟨w.heap.size + 1, 1, none⟩ (.slice none 0 0)).setCell ⟨w.heap.size + 1, 2, none⟩ (.int .i8 0)).setCell ⟨w.heap.size + 1, 3, none⟩ (.int .u8 0)).setCell ⟨w.heap.size + 1, 4, none⟩ (.int .u8 0) = W8 at *
      have bF : Below w.heap.size w W8 := ((F1.below (Nat.le_refl _) (fun _ _ => id)).trans (b1.mono (by omega))).trans (F8.below (by have := b1.size; omega) (fun i hi e => by omega))
      refine bodyPost_ret (results_row1 rfl _ _ (w.heap.size + 1) 35 _ _ rfl B8 Try.underlying35 rfl (by kernel_rfl)) rfl ?_
      exact ⟨_, rfl, ⟨_, _, rfl, Ints.nil _ _ _ _, Ints.nil _ _ _ _, by simp [Value.ownBlock]⟩, bF⟩
    · have hE2 : E = 0 := by rw [hEm, hmay, if_neg hge]
      have hS2 : S = { s with cs := resT s fs F F.length } := by rw [← HSS.out]; unfold resS; rw [if_pos (by rw [HE.out, hE2]), HF.out]
      subst hE2 hS2
      clear hEm
      have hmf : mayL fn s = 0 := by rw [hmay, if_neg hge]
      have hin := (may_zero hmf).2
      have hlen := (chk_pos HCK.out).2
      have hFin := findF_in (ch := ch) (rs := rs) (s := s)
      have hFlen := findF_len (ch := ch) (rs := rs) (s := s)
      rw [HF.out] at hFin hFlen
      have HIN := Lib.hid hin
      have HFIN := Lib.hid hFin
      have hFl : F.length ≤ 1048576 := by have := HN.out; omega
      have HFLN := Lib.hid hFlen
      have hnn : n2 = n := by have := HN.out; have := HN2.out; omega
      have HNN := Lib.hid hnn
      clear hmay hmf hin hlen hFin hFlen hnn
      go_enter Try.func33, Try.ntmps33
      go_upto_region 1 with (fail)
      rw [HW1.out]
      go_upto_region 6 with (go_at_call 29; refine CF1.mono ?_; rintro r1 w1 ⟨lv, rfl, L1, b1⟩; have X71 := X7.below b1 X7.lt; have X81 := X8.below b1 X8.lt; obtain ⟨y0, y1, y2, y3, y4, yf, yl⟩ := X71.c5; have hq1 : w1.cell? ⟨ab, ao + (n - 1), none⟩ = some (.int .i64 q) := ((bcell b1).1 ab _ (by omega)).trans (((bcell (F1.below (Nat.le_refl _) (fun _ _ => id))).1 ab _ a1).trans ca))
      have hc7 : ∀ W, Frm (fun _ => False) w W → Calls Try.prog 67 #[.agg #[.slice (some ⟨ab, ao, none⟩) n c, .slice A2 n2 c2, .int .i8 s.lv, .int .u8 s.so, .int .u8 s.eo]] W fun r w' => ∃ pv cv, r = .returned (.agg #[pv, cv, .int .i8 s.lv, .int .u8 s.so, .int .u8 s.eo]) ∧ Ints w' W.heap.size 3 .i64 pv s.pl ∧ Ints w' W.heap.size 28 .u8 cv s.cs ∧ (∀ j, pv.ownBlock = some j → cv.ownBlock ≠ some j) ∧ Below W.heap.size W w' :=
        fun W hW => Copy_ok (s := s) HN.out.symm HN2.out.symm (RdInts.frmA h1 hW (fun _ _ _ => id)) (RdInts.frmA h2 hW (fun _ _ _ => id)) (by omega) (by have := HNN.out; omega)
      have FW1 : Frm (fun _ => False) w w1 := F1.trans (Frm.of_below b1) (fun _ _ h => h)
      have FWd : Frm (fun _ => False) w w1.drew := FW1.drew
      have b10 := b1.size
      obtain ⟨lA, lc, rfl, lR⟩ := L1.rd
      clear x0 x1 x2 x3 x4 xf xl CF1 hq1
      go_region_held3 (fun W => W.cell? ⟨w.heap.size, 0, none⟩ = some (.slice (some ⟨ab, ao, none⟩) n c) ∧ W.cell? ⟨w.heap.size, 1, none⟩ = some (.slice A2 n2 c2) ∧ W.cell? ⟨w.heap.size, 2, none⟩ = some (.int .i8 s.lv) ∧ W.cell? ⟨w.heap.size, 3, none⟩ = some (.int .u8 s.so) ∧ W.cell? ⟨w.heap.size, 4, none⟩ = some (.int .u8 s.eo) ∧ Frm (fun _ => False) w W) (first | (refine ⟨?_, ?_, ?_, ?_, ?_, ?_⟩ <;> assumption) | (refine ⟨?_, ?_, ?_, ?_, ?_, ?_⟩ <;> first | exact Frm.alloc (by assumption) _ | (rw [World.cell?_alloc_lt _ _ _ (by assumption)]; assumption)))
        (first
          | (go_at_call 67; refine (hc7 _ (by assumption)).mono ?_; rintro r2 w2 ⟨pv2, cv2, rfl, I1, I2, hap, b2⟩; have q0 := ((bcell b2).1 w.heap.size 0 yl).trans y0; have q1 := ((bcell b2).1 w.heap.size 1 yl).trans y1; have q2 := ((bcell b2).1 w.heap.size 2 yl).trans y2; have q3 := ((bcell b2).1 w.heap.size 3 yl).trans y3; have q4 := ((bcell b2).1 w.heap.size 4 yl).trans y4; have yl2 : w.heap.size < w2.heap.size := Nat.lt_of_lt_of_le yl b2.size; have FW2 : Frm (fun _ => False) w w2 := FWd.trans (Frm.of_below b2) (fun _ _ h => h))
          | (go_at_call 68; refine (Way_ok _ s.lv).mono ?_; rintro r3 w3 ⟨rfl, rfl⟩))
      rename_i hHeld
      clear hHeld q0 q1 q2 q3 q4 y0 y1 y2 y3 y4 yf hc7
      have hnpos : 0 < n := by omega
      obtain ⟨gp, pc2, rfl⟩ := I1.form (by have := HN.out; omega)
      obtain ⟨g, cc2, rfl⟩ := I2.form (by have := HN2.out; have := HNN.out; omega)
      rw [HN.out] at I1
      rw [HN2.out, HNN.out] at I2
      rw [HN.out, HN2.out, HNN.out]
      have hgp := I1.lt gp rfl
      have hgg := I2.lt g rfl
      have hpg : gp ≠ g := fun e => hap gp rfl (by rw [e]; rfl)
      have hsd : w1.drew.heap.size = w1.heap.size := rfl
      rw [hsd] at hgp hgg
      have b22 : Below w1.heap.size w1 w2 := ⟨b2.os, b2.tape, b2.output, b2.size, b2.block⟩
      have X82 := X81.below b22 X81.lt
      have X822 := X82.alloc (.cells #[.slice (some ⟨gp, 0, none⟩) n pc2, .slice (some ⟨g, 0, none⟩) n cc2, .int .i8 s.lv, .int .u8 s.so, .int .u8 s.eo, .slice fA fn fc, .int .u8 (wayL s.lv)] 133)
      have lR2 := ((lR.below b22 (.inl (Nat.le_refl _))).alloc (.cells #[.slice (some ⟨gp, 0, none⟩) n pc2, .slice (some ⟨g, 0, none⟩) n cc2, .int .i8 s.lv, .int .u8 s.so, .int .u8 s.eo, .slice fA fn fc, .int .u8 (wayL s.lv)] 133))
      have hfr := RdInts.frmA hFs FW2 (fun _ _ _ => id)
      have hs10 : w.heap.size + 1 + 1 ≤ w1.heap.size := by omega
      have Q0 : QIs (w2.alloc (.cells #[.slice (some ⟨gp, 0, none⟩) n pc2, .slice (some ⟨g, 0, none⟩) n cc2, .int .i8 s.lv, .int .u8 s.so, .int .u8 s.eo, .slice fA fn fc, .int .u8 (wayL s.lv)] 133)) w2.heap.size g n cc2 pc2 fn fc (some ⟨gp, 0, none⟩) fA s.pl s.cs fs s.lv s.so s.eo (wayL s.lv) w2.heap.size := by
        refine ⟨Blk.new w2 133 _, (I1.rd.alloc _), (I2.base (fun _ _ => Nat.zero_le _)).alloc _, ((hfr.alloc _).more (by have := FW2.size; omega)), HN.out, HFL.out, by omega, ?_⟩
        rintro q off (e | e)
        · injection e with e
          injection e with e
          subst e
          exact ⟨hpg, by omega, by rw [World.size_alloc]; omega⟩
        · have : q < w.heap.size := by
            obtain ⟨b', off', e2, h5, _⟩ := hFs.2 (by have := HFL.out; have := (HIN.out 0 (by have := HN.out; omega)); omega)
            rw [e] at e2
            injection e2 with e2
            injection e2 with e2
            omega
          exact ⟨by omega, by omega, by rw [World.size_alloc]; omega⟩
      obtain ⟨WB, hWB⟩ : ∃ WB, w2.alloc (.cells #[.slice (some ⟨gp, 0, none⟩) n pc2, .slice (some ⟨g, 0, none⟩) n cc2, .int .i8 s.lv, .int .u8 s.so, .int .u8 s.eo, .slice fA fn fc, .int .u8 (wayL s.lv)] 133) = WB := ⟨_, rfl⟩
      rw [hWB] at Q0 X822 lR2
      have I1B : Ints WB w1.heap.size 3 .i64 (.slice (some ⟨gp, 0, none⟩) n pc2) s.pl := by rw [← hWB]; exact I1.alloc _
      have bWB : Below w.heap.size w WB := by rw [← hWB]; exact (FW2.alloc _).below (Nat.le_refl _) (fun _ _ => id)
      have hWs : w2.heap.size < WB.heap.size := by rw [← hWB]; simp
      have HWB := Lib.hid hWB
      clear hWB I1 I2 lR hfr hap
      obtain ⟨fl, hfll⟩ : ∃ fl, F.length = fl := ⟨_, rfl⟩
      rw [hfll] at hFl ⊢
      have HFLL := Lib.hid hfll
      clear hfll
      go_wp2
      rw [HWB.out]
      have hQs : QIs WB w2.heap.size g n cc2 pc2 fn fc (some ⟨gp, 0, none⟩) fA s.pl (resT s fs F 0) fs s.lv s.so s.eo (wayL s.lv) w2.heap.size := Q0
      go_loopg [48] fl (fun gk kv wr => ∃ k : Nat, k + gk = fl ∧ kv = .int .i64 k ∧ QIs wr w2.heap.size g n cc2 pc2 fn fc (some ⟨gp, 0, none⟩) fA s.pl (resT s fs F k) fs s.lv s.so s.eo (wayL s.lv) w2.heap.size ∧ Frm (fun j => j = g) WB wr)
      case atStart => exact ⟨0, by omega, rfl, hQs, Frm.refl _ _⟩
      case round =>
        clear hQs Q0
        obtain ⟨k, hk, rfl, Q, Fg⟩ := hrel
        have HK := Lib.hid hk
        clear hk
        have hFs2 := Fg.size
        by_cases hlt : k < fl
        · obtain ⟨x, hx⟩ : ∃ x, F[k]? = some x := ⟨_, List.getElem?_eq_getElem (by have := HFLL.out; omega)⟩
          have hgd : F.getD k (0, 0) = x := by rw [List.getD_eq_getElem?_getD, hx]; rfl
          have hxm : x ∈ F := List.mem_of_getElem? hx
          obtain ⟨hx1, hx2, hx3⟩ := HFIN.out x hxm
          have lRk : RdR brC 2 wr w1.heap.size lA F := Reads.frm lR2 Fg (fun j hj _ e => by omega)
          obtain ⟨lb, lo, rfl, l1, l2, lcl⟩ := lRk.at_ encB hx (by omega)
          have u0 := lcl 0 _ rfl
          have u1 := lcl 1 _ rfl
          rw [Nat.add_zero] at u0
          rw [← Nat.add_assoc] at u1
          obtain ⟨o, ho⟩ : ∃ o : Nat, x.1 = o := ⟨x.1.toNat, by omega⟩
          obtain ⟨d, hd⟩ : ∃ d : Nat, x.2 = d := ⟨x.2.toNat, by omega⟩
          have hnx : resT s fs F (k + 1) = seL s.pl fs n (wayL s.lv) s.so o d (resT s fs F k) := by
            show seL s.pl fs s.pl.length (wayL s.lv) s.so (F.getD k (0, 0)).1.toNat (F.getD k (0, 0)).2.toNat (resT s fs F k) = _
            rw [hgd, ho, hd, HN.out, Int.toNat_natCast, Int.toNat_natCast]
          rw [ho] at u0
          rw [hd] at u1
          have FA : Frm (fun _ => False) wr (wr.alloc (.cells #[.int .i64 o, .int .i64 d] 65)) := (Frm.refl _ wr).alloc _
          have CS := settle_ok (Q.frm FA id id (fun _ _ _ _ => id)) (o := o) (d := d) (by omega) (by have := HN.out; omega) hn (fun i hi => HIN.out i (by have := HN.out; omega)) hfn
          have HNX := Lib.hid hnx
          clear hx hgd hxm hx1 hx2 hx3 lRk lcl ho hd hnx
          go_wp2_with (go_at_call 69; refine CS.mono ?_; rintro r5 w5 ⟨rfl, Q5, F5⟩)
          go_roundg (fl - (k + 1))
          case rel => exact ⟨k + 1, by have := HK.out; omega, by go_num, by rw [HNX.out]; exact Q5, (Fg.trans (FA.mono (F' := fun j => j = g) (fun _ _ e => e.elim)) (fun _ _ e => e)).trans F5 (fun _ _ e => e)⟩
          case measure => have := HK.out; omega
        · have hkf : k = fl := by have := HK.out; omega
          subst hkf
          obtain ⟨c0, c1, c2', c3, c4, c5, c6, cf, cl⟩ := Q.c7
          have X83 := X822.frm Fg (by omega)
          obtain ⟨z0, z1, z2, z3, z4, zf, zl⟩ := X83.c5
          go_wp2
          have B8 := blk_put5 (.slice (some ⟨gp, 0, none⟩) n pc2) (.slice (some ⟨g, 0, none⟩) n cc2) (.int .i8 s.lv) (.int .u8 s.so) (.int .u8 s.eo) X83
          have F8 := frm_put5 wr (w.heap.size + 1) (.slice (some ⟨gp, 0, none⟩) n pc2) (.slice (some ⟨g, 0, none⟩) n cc2) (.int .i8 s.lv) (.int .u8 s.so) (.int .u8 s.eo)
          generalize ((((wr.setCell ⟨w.heap.size + 1, 0, none⟩ (.slice (some ⟨gp, 0, none⟩) n pc2)).setCell ⟨w.heap.size + 1, 1, none⟩ (.slice (some ⟨g, 0, none⟩) n cc2)).setCell ⟨w.heap.size + 1, 2, none⟩ (.int .i8 s.lv)).setCell ⟨w.heap.size + 1, 3, none⟩ (.int .u8 s.so)).setCell ⟨w.heap.size + 1, 4, none⟩ (.int .u8 s.eo) = W8 at *
          refine bodyPost_ret (results_row1 rfl _ _ (w.heap.size + 1) 35 _ _ rfl B8 Try.underlying35 rfl (by kernel_rfl)) rfl ?_
          have bF : Below w.heap.size w W8 := (bWB.trans (Fg.below (by omega) (fun i hi e => by omega))).trans (F8.below (by omega) (fun i hi e => by omega))
          refine ⟨_, rfl, ⟨_, _, rfl, ?_, ?_, ?_⟩, bF⟩
          · exact ((I1B.frm Fg (fun j e => by have : gp = j := by simpa [Value.ownBlock] using e
                                              omega)).frm F8 (fun j e => by have : gp = j := by simpa [Value.ownBlock] using e
                                                                            omega)).base (fun j e => by have : gp = j := by simpa [Value.ownBlock] using e
                                                                                                        omega)
          · rw [HFLL.out]
            exact (Q.ic.frm F8 (fun j e => by have : g = j := by simpa [Value.ownBlock] using e
                                              omega)).base (fun j e => by have : g = j := by simpa [Value.ownBlock] using e
                                                                          omega)
          · intro j e e2
            have h5 : gp = j := by simpa [Value.ownBlock] using e
            have h6 : g = j := by simpa [Value.ownBlock] using e2
            omega
  · have hEm : E = m := by rw [← HE.out]; unfold resE; rw [HM.out, if_pos hm0]
    have hS2 : S = Sq.zero := by rw [← HSS.out]; unfold resS; rw [if_neg (by rw [HE.out, hEm]; exact hm0)]
    subst hEm hS2
    have hm1 : (E != 0) = true := by simpa using hm0
    go_enter Try.func33, Try.ntmps33
    go_upto_region 1 with (fail)
    rw [HW1.out]
    go_wp2_with (go_at_call 29; refine CF1.mono ?_; rintro r1 w1 ⟨lv, rfl, L1, b1⟩; have X81 := X8.below b1 X8.lt; obtain ⟨z0, z1, z2, z3, z4, zf, zl⟩ := X81.c5)
    have B8 := blk_put5 (.slice none 0 0) (.slice none 0 0) (.int .i8 0) (.int .u8 0) (.int .u8 0) X81
    have F8 := frm_put5 w1 (w.heap.size + 1) (.slice none 0 0) (.slice none 0 0) (.int .i8 0) (.int .u8 0) (.int .u8 0)
    generalize ((((w1.setCell ⟨w.heap.size + 1, 0, none⟩ (.slice none 0 0)).setCell ⟨w.heap.size + 1, 1, none⟩ (.slice none 0 0)).setCell ⟨w.heap.size + 1, 2, none⟩ (.int .i8 0)).setCell ⟨w.heap.size + 1, 3, none⟩ (.int .u8 0)).setCell ⟨w.heap.size + 1, 4, none⟩ (.int .u8 0) = W8 at *
    have bF : Below w.heap.size w W8 := ((F1.below (Nat.le_refl _) (fun _ _ => id)).trans (b1.mono (by omega))).trans (F8.below (by have := b1.size; omega) (fun i hi e => by omega))
    refine bodyPost_ret (results_row1 rfl _ _ (w.heap.size + 1) 35 _ _ rfl B8 Try.underlying35 rfl (by kernel_rfl)) rfl ?_
    exact ⟨_, rfl, ⟨_, _, rfl, Ints.nil _ _ _ _, Ints.nil _ _ _ _, by simp [Value.ownBlock]⟩, bF⟩
end Go.Proofs.Ytpdackbcnbhppaa
