/- SpansRemoved walked. -/
import Derived.Test.YthifeccmbojcdaaV4
import Derived.Test.YthifeccmbojcdaaT11
import Derived.Test.YthifeccmbojcdaaH8
import Derived.BigRegion
import Derived.Deep.RegionHeld3
import Derived.IntWalk
namespace Go.Proofs.Ythifeccmbojcdaa
open Go.RowKit
attribute [local go_sem] Oper.semAt_some

set_option maxRecDepth 100000 in
set_option maxHeartbeats 8000000 in
theorem removed_walk {w : World} {B1 B2 B3 n m q c c2 c3 : Nat} {A A2 A3 : Option Addr} {l lv pu : List Int} (base : Int) (hn : n = l.length) (hm : m = lv.length) (hq : q = pu.length)
    (h1 : RdInts w B1 .u8 A l) (h2 : RdInts w B2 .i8 A2 lv) (h3 : RdInts w B3 .u8 A3 pu) (hp : ∀ x ∈ pu, 0 ≤ x ∧ x ≤ 255) (bn : n ≤ 1048576) (bm : m ≤ 1048576) (hc2 : m ≤ c2) :
    Calls Try.prog 10 #[.int .i8 base, .slice A n c, .slice A2 m c2, .slice A3 q c3] w fun r w' => r = .returned (.bool true) ∧ Below w.heap.size w w' := by
  have HN := Lib.hid hn
  have HM := Lib.hid hm
  have HQ := Lib.hid hq
  have HP := Lib.hid hp
  clear hn hm hq hp
  go_enter Try.func10, Try.ntmps10
  go_wp2
  go_loopg [9, 10, 11, 12] n (fun gk cv vv tv iv wr => ∃ (i N M : Nat) (cA vA tA : Option Addr) (cc vc tc : Nat) (LC LV LT : List Int), i + gk = n ∧ iv = .int .i64 i ∧ cv = .slice cA N cc ∧ vv = .slice vA M vc ∧ tv = .slice tA i tc ∧
    LC = cI l (kU pu) (xU pu) i ∧ LV = vI lv (kU pu) i ∧ LT = tI l (kU pu) (xU pu) i ∧ LC.length = N ∧ LV.length = M ∧ LT.length = i ∧ N ≤ 4 * i ∧ M ≤ 4 * i ∧ R3 w (.slice cA N cc) (.slice vA M vc) (.slice tA i tc) LC LV LT wr)
  case atStart => exact ⟨0, 0, 0, none, none, none, 0, 0, 0, [], [], [], by omega, rfl, rfl, rfl, rfl, rfl, rfl, rfl, rfl, rfl, rfl, by omega, by omega, R3.nil w⟩
  case round =>
    obtain ⟨i, N, M, cA, vA, tA, cc, vc, tc, LC, LV, LT, hi, rfl, rfl, rfl, rfl, hLC, hLV, hLT, hN, hM, hT, hNb, hMb, RR⟩ := hrel
    have HI := Lib.hid hi
    have HLC := Lib.hid hLC
    have HLV := Lib.hid hLV
    have HLT := Lib.hid hLT
    have HNN := Lib.hid hN
    have HMM := Lib.hid hM
    have HTT := Lib.hid hT
    clear hi hN hM hT hLC hLV hLT
    have hs0 := RR.size
    by_cases hlt : i < n
    · obtain ⟨W0, rfl⟩ : ∃ W0, W0 = wr := ⟨_, rfl⟩
      go_wp2
      go_loopg [9, 10, 13] (kU pu i) (fun gk cv vv kv wr => ∃ (k N' M' : Nat) (cA vA : Option Addr) (cc vc : Nat) (LC' LV' : List Int), k + gk = kU pu i ∧ kv = .int .u8 k ∧ cv = .slice cA N' cc ∧ vv = .slice vA M' vc ∧ LC' = LC ++ List.replicate k (xU pu i) ∧ LV' = LV ++ List.replicate k (-1) ∧
        LC'.length = N' ∧ LV'.length = M' ∧ N' = N + k ∧ M' = M + k ∧ R3 w (.slice cA N' cc) (.slice vA M' vc) (.slice tA i tc) LC' LV' LT wr)
      case atStart => exact ⟨0, N, M, cA, vA, cc, vc, LC, LV, by omega, rfl, rfl, rfl, by simp, by simp, HNN.out, HMM.out, rfl, rfl, RR⟩
      case round =>
        clear RR
        obtain ⟨k, N', M', cA, vA, cc, vc, LC', LV', hk, rfl, rfl, rfl, hLC', hLV', hN1, hM1, hN2, hM2, RR⟩ := hrel
        have hk3 : k ≤ 3 := by have := kU_le pu i; omega
        have hNk : N' ≤ 4 * i + k := by omega
        have hMk : M' ≤ 4 * i + k := by omega
        have HK := Lib.hid hk
        have HLC' := Lib.hid hLC'
        have HLV' := Lib.hid hLV'
        have HN1 := Lib.hid hN1
        have HM1 := Lib.hid hM1
        have HN2 := Lib.hid hN2
        have HM2 := Lib.hid hM2
        clear hk hLC' hLV' hN1 hM1 hN2 hM2
        have hsz := RR.size
        by_cases hkk : k < kU pu i
        · have hiq : i < q := by
            rw [HQ.out]
            apply Decidable.byContradiction
            intro h
            unfold kU at hkk
            rw [if_neg h] at hkk
            omega
          obtain ⟨b3, o3, rfl, _, hb3, cl3⟩ := h3.at_ (i := i) (by have := HQ.out; omega)
          replace cl3 : wr.cell? ⟨b3, o3 + i, none⟩ = some (.int .u8 (pu.getD i 0)) := by rw [RR.bel.cell (p := ⟨b3, o3 + i, none⟩) hb3]; exact cl3
          have hb3' : b3 < wr.heap.size := by omega
          obtain ⟨p0, p1⟩ := HP.out (pu.getD i 0) (getD_mem0 0 (by have := HQ.out; omega))
          have hkv : (k : Int) < pu.getD i 0 % 4 := by
            unfold kU at hkk
            rw [if_pos (by have := HQ.out; omega)] at hkk
            omega
          have hx : xU pu i = [10, 15, 18, 19].getD ((pu.getD i 0 / 4) % 4).toNat 10 := rfl
          have HX := Lib.hid hx
          have e3 := and3u p0 p1
          have e4 := and3 (pu.getD i 0 / 4)
          have hkw : IntKind.u8.wrap ((k : Int) + 1) = (k : Int) + 1 := IntWalk.u8_in _ (by omega)
          clear hx
          generalize pu.getD i 0 = p at *
          rcases (by omega : p / 4 % 4 = 0 ∨ p / 4 % 4 = 1 ∨ p / 4 % 4 = 2 ∨ p / 4 % 4 = 3) with hz | hz | hz | hz
          all_goals
            rw [hz] at e4 HX
            clear hz
            go_wp2_with (at_builtin; go_must (refine wpList_appI ei22 rfl rfl rfl ((RR.alloc _).alloc _).c rfl (Blk.at_ (by simp)) ?_ ?_ ?_ ?_))
            · rw [HN1.out]; unfold maxLen; omega
            · rw [HN1.out]; omega
            · have := RR.size; simp; omega
            intro gc kc wc Ic Gc Vc
            rw [HN1.out] at Ic ⊢
            replace RR := ((RR.alloc _).alloc _).appc Ic Gc
            clear Ic Gc Vc
            go_wp2_with (at_builtin; go_must (refine wpList_appI ei35 rfl rfl rfl (RR.alloc _).v rfl (Blk.at_ (by simp)) ?_ ?_ ?_ ?_))
            · rw [HM1.out]; unfold maxLen; omega
            · rw [HM1.out]; omega
            · have := RR.size; simp; omega
            intro gv kv wv Iv Gv Vv
            rw [HM1.out] at Iv ⊢
            replace RR := (RR.alloc _).appv Iv Gv
            clear Iv Gv Vv
            go_wp2
            go_roundg (kU pu i - (k + 1))
            case rel => exact ⟨k + 1, N' + 1, M' + 1, _, _, _, _, _, _, by have := HK.out; omega, by go_num, rfl, rfl, by rw [HLC'.out, List.append_assoc, List.replicate_succ', HX.out]; rfl, by rw [HLV'.out, List.append_assoc, List.replicate_succ'], by simp [HN1.out], by simp [HM1.out], by have := HN2.out; omega, by have := HM2.out; omega, RR⟩
            case measure => have := HK.out; omega
        · have hke : k = kU pu i := by have := HK.out; omega
          have hkU := kU_le pu i
          subst hke
          obtain ⟨b1, o1, rfl, _, hb1, cl1⟩ := h1.at_ (i := i) (by have := HN.out; omega)
          have hb1' : b1 < wr.heap.size := by omega
          have key1 : ∀ W', Below w.heap.size w W' → W'.cell? ⟨b1, o1 + i, none⟩ = some (.int .u8 (l.getD i 0)) := fun W' hb => by rw [hb.cell (p := ⟨b1, o1 + i, none⟩) hb1]; exact cl1
          have KEY1 := Lib.hid key1
          clear key1 cl1
          have HC20 : LC' ++ [l.getD i 0] = cI l (kU pu) (xU pu) (i + 1) := by rw [HLC'.out, HLC.out]; rfl
          have HC2 := Lib.hid HC20
          clear HC20
          generalize l.getD i 0 = x1 at *
          have HT20 : LT ++ [((N' : Nat) : Int)] = tI l (kU pu) (xU pu) (i + 1) := by rw [HLT.out, HN2.out, ← HNN.out, HLC.out]; rfl
          have HT2 := Lib.hid HT20
          clear HT20
          have hq3 : i < q → ∃ b3 o3, A3 = some ⟨b3, o3, none⟩ ∧ wr.cell? ⟨b3, o3 + i, none⟩ = some (.int .u8 (pu.getD i 0)) ∧ b3 < wr.heap.size ∧ 0 ≤ pu.getD i 0 ∧ pu.getD i 0 ≤ 255 ∧ ¬ ((kU pu i : Int) < pu.getD i 0 % 4) := by
            intro hiq
            obtain ⟨b3, o3, rfl, _, hb3, cl3⟩ := h3.at_ (i := i) (by have := HQ.out; omega)
            replace cl3 : wr.cell? ⟨b3, o3 + i, none⟩ = some (.int .u8 (pu.getD i 0)) := by rw [RR.bel.cell (p := ⟨b3, o3 + i, none⟩) hb3]; exact cl3
            obtain ⟨p0, p1⟩ := HP.out (pu.getD i 0) (getD_mem0 0 (by have := HQ.out; omega))
            refine ⟨b3, o3, rfl, cl3, by omega, p0, p1, ?_⟩
            unfold kU
            rw [if_pos (by have := HQ.out; omega)]
            omega
          rcases Nat.lt_or_ge i q with hiq | hiq
          all_goals try (have hiq2 : i < q := by assumption
                         obtain ⟨b3, o3, rfl, cl3, hb3', p0, p1, hkv⟩ := hq3 hiq2
                         have e3 := and3u p0 p1
                         clear hiq2
                         generalize pu.getD i 0 = p at *)
          all_goals clear hq3
          all_goals
            go_wp2_with (at_builtin; go_must (refine wpList_appI ei24 rfl rfl rfl (RR.alloc _).t rfl (Blk.at_ (by simp)) ?_ ?_ ?_ ?_))
            · rw [HTT.out]; unfold maxLen; omega
            · rw [HTT.out]; omega
            · have := RR.size; simp; omega
            intro gt kt wt It Gt Vt
            rw [HTT.out] at It ⊢
            replace RR := (RR.alloc _).appt It Gt
            clear It Gt Vt
            have cl1 := KEY1.out _ RR.bel
            have hb1'' : b1 < wt.heap.size := by have := RR.size; omega
            go_wp2_with (at_builtin; go_must (refine wpList_appI ei22 rfl rfl rfl (RR.alloc _).c rfl (Blk.at_ (by simp)) ?_ ?_ ?_ ?_))
            · rw [HN1.out]; unfold maxLen; omega
            · rw [HN1.out]; omega
            · have := RR.size; simp; omega
            intro gc kc wc Ic Gc Vc
            rw [HN1.out] at Ic ⊢
            replace RR := (RR.alloc _).appc Ic Gc
            clear Ic Gc Vc
            clear cl1 hb1''
            by_cases him : i < m
            · obtain ⟨b2, o2, rfl, _, hb2, cl2⟩ := h2.at_ (i := i) (by have := HM.out; omega)
              replace cl2 : wc.cell? ⟨b2, o2 + i, none⟩ = some (.int .i8 (lv.getD i 0)) := by rw [RR.bel.cell (p := ⟨b2, o2 + i, none⟩) hb2]; exact cl2
              have hb2' : b2 < wc.heap.size := by have := RR.size; omega
              have HV20 : LV' ++ [lv.getD i 0] = vI lv (kU pu) (i + 1) := by rw [HLV'.out, HLV.out]; show _ = vI lv (kU pu) i ++ List.replicate (kU pu i) (-1) ++ (if i < lv.length then [lv.getD i 0] else []); rw [if_pos (by have := HM.out; omega)]
              have HV2 := Lib.hid HV20
              clear HV20
              generalize lv.getD i 0 = x2 at *
              go_wp2_with (at_builtin; go_must (refine wpList_appI ei35 rfl rfl rfl (RR.alloc _).v rfl (Blk.at_ (by simp)) ?_ ?_ ?_ ?_))
              · rw [HM1.out]; unfold maxLen; omega
              · rw [HM1.out]; omega
              · have := RR.size; simp; omega
              intro gv kv wv Iv Gv Vv
              rw [HM1.out] at Iv ⊢
              replace RR := (RR.alloc _).appv Iv Gv
              clear Iv Gv Vv
              go_wp2
              go_roundg (n - (i + 1))
              case rel => exact ⟨i + 1, N' + 1, M' + 1, _, _, _, _, _, _, _, _, _, by have := HI.out; omega, by go_num, rfl, rfl, rfl, HC2.out, HV2.out, HT2.out, by simp [HN1.out], by simp [HM1.out], by simp [HTT.out], by have := HN2.out; omega, by have := HM2.out; omega, RR⟩
              case measure => have := HI.out; omega
            · have HV20 : LV' = vI lv (kU pu) (i + 1) := by rw [HLV'.out, HLV.out]; show _ = vI lv (kU pu) i ++ List.replicate (kU pu i) (-1) ++ (if i < lv.length then [lv.getD i 0] else []); rw [if_neg (by have := HM.out; omega), List.append_nil]
              have HV2 := Lib.hid HV20
              clear HV20
              go_wp2
              go_roundg (n - (i + 1))
              case rel => exact ⟨i + 1, N' + 1, M', _, _, _, _, _, _, _, _, _, by have := HI.out; omega, by go_num, rfl, rfl, rfl, HC2.out, HV2.out, HT2.out, by simp [HN1.out], HM1.out, by simp [HTT.out], by have := HN2.out; omega, by have := HM2.out; omega, RR⟩
              case measure => have := HI.out; omega
    · have hin : i = n := by have := HI.out; omega
      subst hin
      obtain ⟨W1, rfl⟩ : ∃ W1, W1 = wr := ⟨_, rfl⟩
      clear HI
      go_upto_if 84 with (fail)
      go_cut [10] from 84 to 90 (fun vv W => ∃ (vA : Option Addr) (vc M : Nat) (LV' : List Int), vv = .slice vA M vc ∧ LV' = vI lv (kU pu) i ++ lv.drop i ∧ LV'.length = M ∧ R3 w (.slice cA N cc) (.slice vA M vc) (.slice tA i tc) LC LV' LT W)
      case first =>
        by_cases hmn : i < m
        · obtain ⟨b2, o2, rfl, _, hb2, _⟩ := h2.at_ (i := i) (by have := HM.out; omega)
          have rd := (RdInts.drop (h2.below RR.bel (.inr (Nat.le_refl _))) rfl i)
          have hic : i < c2 := by omega
          have hmi : m - i = (lv.drop i).length := by have := HM.out; simp; omega
          have HMI := Lib.hid hmi
          clear hmi
          go_wp2_with (at_builtin; go_must (refine wpList_appIs ei35 rfl rfl rfl RR.v (l' := lv.drop i) HMI.out rfl rd ?_ ?_ ?_ ?_))
          · rw [HMM.out, ← HMI.out]; unfold maxLen; omega
          · rw [HMM.out, ← HMI.out]; omega
          · exact hs0
          intro v' wv Iv Gv Vv
          obtain ⟨vA', vc', rfl, -, -, -⟩ := Iv.val
          replace RR := RR.appv Iv Gv
          obtain ⟨LV', hLV'⟩ : ∃ LV', LV ++ lv.drop i = LV' := ⟨_, rfl⟩
          rw [hLV'] at Iv RR ⊢
          obtain ⟨M', hM'⟩ : ∃ M', LV'.length = M' := ⟨_, rfl⟩
          rw [hM'] at Iv RR ⊢
          have HLV' := Lib.hid hLV'
          have HM' := Lib.hid hM'
          clear hLV' hM' Iv Gv Vv
          go_wp2
          go_meet
          exact ⟨vA', vc', M', LV', rfl, by rw [← HLV'.out, HLV.out], HM'.out, RR⟩
        · go_wp2
          go_meet
          exact ⟨vA, vc, M, LV, rfl, by rw [HLV.out, List.drop_eq_nil_of_le (by have := HM.out; omega), List.append_nil], HMM.out, RR⟩
      case rest =>
        obtain ⟨W2, rfl⟩ : ∃ W2, W2 = wc := ⟨_, rfl⟩
        clear RR HLV HMM
        obtain ⟨vA, vc, M, LV', rfl, hLV, hM, RR⟩ := hcut
        have HLV := Lib.hid hLV
        have HMM := Lib.hid hM
        clear hLV hM
        have hs2 := RR.size
        have hto : ∀ j, (Value.slice tA i tc).ownBlock = some j → j < W2.heap.size := fun j e => (RR.t.lt j e).2
        have HTO := Lib.hid hto
        clear hto
        have rl := h1.below RR.bel (.inr (Nat.le_refl _))
        have rv := h2.below RR.bel (.inr (Nat.le_refl _))
        have hE := seqs_I (l := l) (lv := lv) (K := kU pu) (X := xU pu) (xU_rem pu) base
        have hPl := seqs_places (cl := l) (nw := l) (lv := lv) (base := base)
        have hSh := seqs_short (cl := l) (nw := l) (lv := lv) (base := base)
        rw [← HN.out, ← HLC.out, ← HLV.out] at hE
        rw [← HN.out] at hPl hSh
        have CT1 : Calls Try.prog 40 #[.slice A i c, .slice A i c, .slice A2 m c2, .int .i8 base] W2 fun r w' => ∃ ov, r = .returned (.tuple #[ov, .int .i64 (seqsL l l lv base).2]) ∧ SqsOwn w' W2.heap.size ov (seqsL l l lv base).1 ∧ Below W2.heap.size W2 w' :=
          Sequences_any base HN.out HN.out HM.out rl rl rv (by omega)
        have CT2 : ∀ w3, Below W2.heap.size W2 w3 → Calls Try.prog 40 #[.slice cA N cc, .slice cA N cc, .slice vA M vc, .int .i8 base] w3 fun r w' => ∃ ov, r = .returned (.tuple #[ov, .int .i64 (seqsL l l lv base).2]) ∧ SqsOwn w' w3.heap.size ov ((seqsL l l lv base).1.map (Smv (poI l (kU pu) (xU pu)))) ∧ Below w3.heap.size w3 w' := by
          intro w3 b3
          have R' := RR.below b3 (Nat.le_refl _)
          have := Sequences_any (w := w3) (c0 := cc) (c1 := cc) (c2 := vc) base HNN.out.symm HNN.out.symm HMM.out.symm R'.c.rd R'.c.rd R'.v.rd (by omega)
          rwa [hE] at this
        clear rl rv
        obtain ⟨ss, er, hss⟩ : ∃ ss er, seqsL l l lv base = (ss, er) := ⟨_, _, rfl⟩
        rw [hss] at CT1 CT2 hPl hSh
        simp only at CT1 CT2 hPl hSh
        obtain ⟨ns, hns⟩ : ∃ ns, ss.length = ns := ⟨_, rfl⟩
        have HNS := Lib.hid hns
        have HPL := Lib.hid hPl
        have HSH := Lib.hid hSh
        have HCT2 := Lib.hid CT2
        clear hss hE hPl hSh hns CT2
        go_upto_region 18 with (go_at_call 40; refine CT1.mono ?_; rintro r3 w3 ⟨ov1, rfl, S1, b3⟩; obtain ⟨L1, P1⟩ := Prog1.start S1; obtain ⟨oA, oc, hov⟩ := row_shape P1.at_.row; rw [P1.len, HNS.out] at hov; subst hov; clear S1)
        have CT2 := HCT2.out w3 b3
        clear CT1 HCT2
        go_wp2_with (go_at_call 40; refine CT2.mono ?_; rintro r4 w4 ⟨ov2, rfl, ⟨L2, hL2, S2⟩, b4⟩; obtain ⟨pA, pc, hov⟩ := row_shape S2.row; have hll := congrArg List.length hL2; rw [List.length_map, List.length_map, HNS.out] at hll; rw [hll] at hov; subst hov)
        have HL2 := Lib.hid hL2
        have HLL := Lib.hid hll
        have b24 := b3.trans (b4.mono b3.size)
        replace RR := RR.below b24 (Nat.le_refl _)
        replace P1 := P1.below b4 (Nat.le_refl _)
        have hs3 := b3.size
        have hs4 := b4.size
        have RT := RR.t
        have RB := RR.bel
        clear hL2 hll CT2 RR
        go_loopg [18] ns (fun gk iv wr => ∃ (j : Nat) (L : List (Sq × Value × Value)), j + gk = ns ∧ iv = .int .i64 j ∧ Prog1 wr W2.heap.size w3.heap.size (.slice oA ns oc) ss j L ∧ SqsAt wr w3.heap.size (.slice pA ns pc) L2 ∧ Ints wr w.heap.size 3 .i64 (.slice tA i tc) LT ∧ Below w.heap.size w wr ∧ w3.heap.size ≤ wr.heap.size)
        case atStart => exact ⟨0, L1, by omega, rfl, P1, S2, RT, RB, by omega⟩
        case round =>
          clear P1 S2 RT RB
          obtain ⟨j, L, hj, rfl, P1, S2, RT, RB, hs5⟩ := hrel
          have HJ := Lib.hid hj
          clear hj
          by_cases hlt : j < ns
          · obtain ⟨g, cap, hv, hg0, hg1⟩ := World.ownsRow.form P1.at_.row (by have := P1.len; have := HNS.out; omega)
            injection hv with hv1 hv2 hv3
            subst hv1 hv3
            clear hv2
            have hnm : ns ≤ 9223372036854775807 := by
              have row := P1.at_.row
              rw [P1.len, HNS.out] at row
              obtain ⟨_, _, _, k1, k2, _⟩ := own_blk row
              unfold maxLen at k2
              omega
            have hjs : j < ss.length := by rw [HNS.out]; exact hlt
            have hsm := getD_mem0 (l := ss) default hjs
            obtain ⟨hl1, hl2⟩ := HSH.out _ hsm
            have hpl := HPL.out _ hsm
            have P2 := P1.go hjs (Mv (poI l (kU pu) (xU pu)))
            obtain ⟨e', he', hes'⟩ : ∃ e', L2[j]? = some e' ∧ e'.1 = Smv (poI l (kU pu) (xU pu)) (ss.getD j default) := by
              have h := congrArg (fun x => x[j]?) HL2.out
              simp only [List.getElem?_map] at h
              rw [List.getElem?_eq_getElem hjs] at h
              obtain ⟨e', h1, h2⟩ := Option.map_eq_some_iff.1 h
              exact ⟨e', h1, by rw [h2, List.getD_eq_getElem?_getD, List.getElem?_eq_getElem hjs]; rfl⟩
            clear hsm hjs
            generalize ss.getD j default = s at *
            obtain ⟨pl, cs, lv0, so, eo⟩ := s
            simp only at hl1 hl2 hpl
            have HPLS := Lib.hid hpl
            have HES' := Lib.hid hes'
            have HL2S := Lib.hid hl2
            have HE' := Lib.hid he'
            clear hpl hes' hl2 he'
            obtain ⟨W5, rfl⟩ : ∃ W5, W5 = wr := ⟨_, rfl⟩
            go_wp2
            go_loopg [19] pl.length (fun gk kv wr => ∃ (k : Nat) (L : List (Sq × Value × Value)), k + gk = pl.length ∧ kv = .int .i64 k ∧ Prog2 wr W2.heap.size w3.heap.size (.slice (some ⟨g, 0, none⟩) ns oc) ss (Mv (poI l (kU pu) (xU pu))) j ⟨pl, cs, lv0, so, eo⟩ k L ∧ SqsAt wr w3.heap.size (.slice pA ns pc) L2 ∧ Ints wr w.heap.size 3 .i64 (.slice tA i tc) LT ∧ Below w.heap.size w wr ∧ w3.heap.size ≤ wr.heap.size)
            case atStart => exact ⟨0, L, by omega, rfl, P2, S2, RT, RB, hs5⟩
            case round =>
              clear P2 S2 RT RB P1
              obtain ⟨k, L, hk, rfl, P2, S2, RT, RB, hs5⟩ := hrel
              have HK := Lib.hid hk
              clear hk
              obtain ⟨e, he, hes⟩ := P2.get
              obtain ⟨eA, ec, eC, ed, ev1, ev2, x0, x1, x2, x3, x4, r1, r2⟩ := P2.at_.get he
              have i1 := (P2.at_.each e (List.mem_of_getElem? he)).1
              rw [ev1] at i1
              rw [hes] at x0 x1 x2 x3 x4 r1 r2 ev1 ev2 i1
              simp only [partM_len] at x0 x1 x2 x3 x4 ev1 ev2 i1
              have HE := Lib.hid he
              have HES := Lib.hid hes
              have HEV1 := Lib.hid ev1
              clear he hes ev1 ev2
              have hgr : g < wr.heap.size := by
                have := (World.ownsRow.lt P2.at_.row g rfl).2
                exact this
              by_cases hkk : k < pl.length
              · obtain ⟨ge, ce, hv⟩ := i1.form (by rw [partM_len]; omega)
                injection hv with hv1 hv2 hv3
                subst hv1 hv3
                clear hv2 r1 r2 x1 x2 x3 x4
                obtain ⟨-, -, -, hge0, hge1, hgf, hgc⟩ := i1.at_
                have y0 := hgc k (by rw [partM_len]; exact hkk)
                rw [partM_at _ hkk] at y0
                obtain ⟨a, ha, hai⟩ := HPLS.out (pl.getD k 0) (getD_mem0 0 hkk)
                rw [ha] at y0
                obtain ⟨gt, ct, hv⟩ := RT.form (by have := HTT.out; omega)
                injection hv with hv1 hv2 hv3
                subst hv1 hv3
                clear hv2
                obtain ⟨-, -, -, -, hgt1, hgtf, hgtc⟩ := RT.at_
                have z0 := hgtc a (by rw [HTT.out]; exact hai)
                rw [HLT.out, tI_at hai] at z0
                have hgt2 : gt < W2.heap.size := HTO.out gt rfl
                have HA := Lib.hid ha
                clear hgc hgtc ha i1
                go_wp2
                go_region
                all_goals
                  go_wp2
                  go_roundg (pl.length - (k + 1))
                  case rel =>
                    have Q := P2.set hkk HE.out HES.out HEV1.out
                    have hm : Mv (poI l (kU pu) (xU pu)) (pl.getD k 0) = ((poI l (kU pu) (xU pu) a : Nat) : Int) := by rw [HA.out, Mv_nat]
                    simp only [hm] at Q
                    have hgeu := P2.up e (List.mem_of_getElem? HE.out) ge (.inl (by rw [HEV1.out]; rfl))
                    have F := (Frm.refl (fun j => j = ge) wr).set (b := ge) (j := k) rfl (.int .i64 ((poI l (kU pu) (xU pu) a : Nat) : Int))
                    have FD := F.drew
                    have hgt3 : gt ≠ ge := by omega
                    have hwD : w.heap.size ≤ W2.heap.size := hs2
                    exact ⟨k + 1, _, by have := HK.out; omega, by go_num, Q.drew, S2.frm FD (fun j e => by omega), RT.frm FD (fun j e1 e2 => by have e3 : gt = j := Option.some.inj e1; have e4 : j = ge := e2; omega), RB.trans (FD.below RB.size (fun j h1 h2 => by omega)), Nat.le_trans hs5 FD.size⟩
                  case measure => have := HK.out; omega
              · have hke : k = pl.length := by have := HK.out; omega
                subst hke
                rw [partM_all] at r1
                obtain ⟨gp, cp, hv, _, hgp⟩ := World.ownsRow.form S2.row (by have := HLL.out; omega)
                injection hv with hv1 hv2 hv3
                subst hv1 hv3
                clear hv2
                obtain ⟨fA, fc, fC, fd, _, _, z0, z1, z2, z3, z4, r3, r4⟩ := S2.get HE'.out
                rw [HES'.out] at z0 z1 z2 z3 z4 r3 r4
                simp only [Smv, List.length_map] at z0 z1 z2 z3 z4 r3 r4
                obtain ⟨W6, rfl⟩ : ∃ W6, W6 = wr := ⟨_, rfl⟩
                have hml : pl.length = (pl.map (Mv (poI l (kU pu) (xU pu)))).length := by simp
                have HML := Lib.hid hml
                obtain ⟨cl', hcl⟩ : ∃ cl', cs.length = cl' := ⟨_, rfl⟩
                rw [hcl] at x1 z1
                have HCL := Lib.hid hcl.symm
                have hcb : cl' ≤ 1048576 := by have := HL2S.out; omega
                have key4 : ∀ W', Aft W6 W' → (W'.cell? ⟨g, j * 5, none⟩ = some (.slice eA pl.length ec) ∧ W'.cell? ⟨g, j * 5 + 1, none⟩ = some (.slice eC cl' ed) ∧ W'.cell? ⟨g, j * 5 + 2, none⟩ = some (.int .i8 lv0) ∧ W'.cell? ⟨g, j * 5 + 3, none⟩ = some (.int .u8 so) ∧ W'.cell? ⟨g, j * 5 + 4, none⟩ = some (.int .u8 eo) ∧ W'.cell? ⟨gp, j * 5, none⟩ = some (.slice fA pl.length fc) ∧ W'.cell? ⟨gp, j * 5 + 1, none⟩ = some (.slice fC cl' fd) ∧ W'.cell? ⟨gp, j * 5 + 2, none⟩ = some (.int .i8 lv0) ∧ W'.cell? ⟨gp, j * 5 + 3, none⟩ = some (.int .u8 so) ∧ W'.cell? ⟨gp, j * 5 + 4, none⟩ = some (.int .u8 eo)) := fun W' ha => by
                  have hb : Below W6.heap.size W6 W' := ha
                  refine ⟨?_, ?_, ?_, ?_, ?_, ?_, ?_, ?_, ?_, ?_⟩ <;> (rw [hb.cell (by assumption)]; assumption)
                have KEY4 := Lib.hid key4
                have hq : Prog1 W6 W2.heap.size w3.heap.size (.slice (some ⟨g, 0, none⟩) ns oc) ss (j + 1) L := P2.done
                clear hml hcl key4 x1 x2 x3 x4 z0 z1 z2 z3 z4 i1 P2
                have A0 : Aft W6 W6.drew := (Aft.refl W6).drew
                go_wp2
                clear x0
                go_region_held3 (fun W' : World => W'.cell? ⟨g, j * 5, none⟩ = some (.slice eA pl.length ec) ∧ W'.cell? ⟨g, j * 5 + 1, none⟩ = some (.slice eC cl' ed) ∧ W'.cell? ⟨g, j * 5 + 2, none⟩ = some (.int .i8 lv0) ∧ W'.cell? ⟨g, j * 5 + 3, none⟩ = some (.int .u8 so) ∧ W'.cell? ⟨g, j * 5 + 4, none⟩ = some (.int .u8 eo) ∧ W'.cell? ⟨gp, j * 5, none⟩ = some (.slice fA pl.length fc) ∧ W'.cell? ⟨gp, j * 5 + 1, none⟩ = some (.slice fC cl' fd) ∧ W'.cell? ⟨gp, j * 5 + 2, none⟩ = some (.int .i8 lv0) ∧ W'.cell? ⟨gp, j * 5 + 3, none⟩ = some (.int .u8 so) ∧ W'.cell? ⟨gp, j * 5 + 4, none⟩ = some (.int .u8 eo)) (first | exact KEY4.out _ (by (with_reducible (first | assumption | exact Aft.refl _ | ((first | refine Aft.alloc ?_ _ | refine Aft.drew ?_ | refine Aft.trans ?_ (by assumption)); (first | assumption | exact Aft.refl _ | ((first | refine Aft.alloc ?_ _ | refine Aft.drew ?_ | refine Aft.trans ?_ (by assumption)); (first | assumption | exact Aft.refl _ | ((first | refine Aft.alloc ?_ _ | refine Aft.drew ?_ | refine Aft.trans ?_ (by assumption)); (first | assumption | exact Aft.refl _ | ((first | refine Aft.alloc ?_ _ | refine Aft.drew ?_ | refine Aft.trans ?_ (by assumption)); (first | assumption | exact Aft.refl _ | ((first | refine Aft.alloc ?_ _ | refine Aft.drew ?_ | refine Aft.trans ?_ (by assumption)); (first | assumption | exact Aft.refl _ | ((first | refine Aft.alloc ?_ _ | refine Aft.drew ?_ | refine Aft.trans ?_ (by assumption)); (first | assumption | exact Aft.refl _))))))))))))))))
                  (first
                  | (go_simp; go_at_call 41; (with_reducible refine (Same_t HML.out HCL.out (r1.aft (by (with_reducible (first | assumption | exact Aft.refl _ | ((first | refine Aft.alloc ?_ _ | refine Aft.drew ?_ | refine Aft.trans ?_ (by assumption)); (first | assumption | exact Aft.refl _ | ((first | refine Aft.alloc ?_ _ | refine Aft.drew ?_ | refine Aft.trans ?_ (by assumption)); (first | assumption | exact Aft.refl _ | ((first | refine Aft.alloc ?_ _ | refine Aft.drew ?_ | refine Aft.trans ?_ (by assumption)); (first | assumption | exact Aft.refl _ | ((first | refine Aft.alloc ?_ _ | refine Aft.drew ?_ | refine Aft.trans ?_ (by assumption)); (first | assumption | exact Aft.refl _ | ((first | refine Aft.alloc ?_ _ | refine Aft.drew ?_ | refine Aft.trans ?_ (by assumption)); (first | assumption | exact Aft.refl _ | ((first | refine Aft.alloc ?_ _ | refine Aft.drew ?_ | refine Aft.trans ?_ (by assumption)); (first | assumption | exact Aft.refl _)))))))))))))))) (r2.aft (by (with_reducible (first | assumption | exact Aft.refl _ | ((first | refine Aft.alloc ?_ _ | refine Aft.drew ?_ | refine Aft.trans ?_ (by assumption)); (first | assumption | exact Aft.refl _ | ((first | refine Aft.alloc ?_ _ | refine Aft.drew ?_ | refine Aft.trans ?_ (by assumption)); (first | assumption | exact Aft.refl _ | ((first | refine Aft.alloc ?_ _ | refine Aft.drew ?_ | refine Aft.trans ?_ (by assumption)); (first | assumption | exact Aft.refl _ | ((first | refine Aft.alloc ?_ _ | refine Aft.drew ?_ | refine Aft.trans ?_ (by assumption)); (first | assumption | exact Aft.refl _ | ((first | refine Aft.alloc ?_ _ | refine Aft.drew ?_ | refine Aft.trans ?_ (by assumption)); (first | assumption | exact Aft.refl _ | ((first | refine Aft.alloc ?_ _ | refine Aft.drew ?_ | refine Aft.trans ?_ (by assumption)); (first | assumption | exact Aft.refl _)))))))))))))))) (r3.aft (by (with_reducible (first | assumption | exact Aft.refl _ | ((first | refine Aft.alloc ?_ _ | refine Aft.drew ?_ | refine Aft.trans ?_ (by assumption)); (first | assumption | exact Aft.refl _ | ((first | refine Aft.alloc ?_ _ | refine Aft.drew ?_ | refine Aft.trans ?_ (by assumption)); (first | assumption | exact Aft.refl _ | ((first | refine Aft.alloc ?_ _ | refine Aft.drew ?_ | refine Aft.trans ?_ (by assumption)); (first | assumption | exact Aft.refl _ | ((first | refine Aft.alloc ?_ _ | refine Aft.drew ?_ | refine Aft.trans ?_ (by assumption)); (first | assumption | exact Aft.refl _ | ((first | refine Aft.alloc ?_ _ | refine Aft.drew ?_ | refine Aft.trans ?_ (by assumption)); (first | assumption | exact Aft.refl _ | ((first | refine Aft.alloc ?_ _ | refine Aft.drew ?_ | refine Aft.trans ?_ (by assumption)); (first | assumption | exact Aft.refl _)))))))))))))))) (r4.aft (by (with_reducible (first | assumption | exact Aft.refl _ | ((first | refine Aft.alloc ?_ _ | refine Aft.drew ?_ | refine Aft.trans ?_ (by assumption)); (first | assumption | exact Aft.refl _ | ((first | refine Aft.alloc ?_ _ | refine Aft.drew ?_ | refine Aft.trans ?_ (by assumption)); (first | assumption | exact Aft.refl _ | ((first | refine Aft.alloc ?_ _ | refine Aft.drew ?_ | refine Aft.trans ?_ (by assumption)); (first | assumption | exact Aft.refl _ | ((first | refine Aft.alloc ?_ _ | refine Aft.drew ?_ | refine Aft.trans ?_ (by assumption)); (first | assumption | exact Aft.refl _ | ((first | refine Aft.alloc ?_ _ | refine Aft.drew ?_ | refine Aft.trans ?_ (by assumption)); (first | assumption | exact Aft.refl _ | ((first | refine Aft.alloc ?_ _ | refine Aft.drew ?_ | refine Aft.trans ?_ (by assumption)); (first | assumption | exact Aft.refl _)))))))))))))))) (by omega) (by omega)).mono ?_); rintro r W' ⟨rfl, (A : Aft _ W')⟩))
                all_goals
                  have aw : Aft W6 W' := by (with_reducible (first | assumption | exact Aft.refl _ | ((first | refine Aft.alloc ?_ _ | refine Aft.drew ?_ | refine Aft.trans ?_ (by assumption)); (first | assumption | exact Aft.refl _ | ((first | refine Aft.alloc ?_ _ | refine Aft.drew ?_ | refine Aft.trans ?_ (by assumption)); (first | assumption | exact Aft.refl _ | ((first | refine Aft.alloc ?_ _ | refine Aft.drew ?_ | refine Aft.trans ?_ (by assumption)); (first | assumption | exact Aft.refl _ | ((first | refine Aft.alloc ?_ _ | refine Aft.drew ?_ | refine Aft.trans ?_ (by assumption)); (first | assumption | exact Aft.refl _ | ((first | refine Aft.alloc ?_ _ | refine Aft.drew ?_ | refine Aft.trans ?_ (by assumption)); (first | assumption | exact Aft.refl _ | ((first | refine Aft.alloc ?_ _ | refine Aft.drew ?_ | refine Aft.trans ?_ (by assumption)); (first | assumption | exact Aft.refl _))))))))))))))
                  go_wp2
                  go_roundg (ns - (j + 1))
                  case rel => exact ⟨j + 1, L, by have := HJ.out; omega, by go_num, hq.below aw (Nat.le_refl _), S2.below aw (Nat.le_refl _), RT.below aw (Nat.le_refl _), RB.trans (aw.mono RB.size), Nat.le_trans hs5 aw.size⟩
                  case measure => have := HJ.out; omega
          · go_wp2_with (go_at_call 37; refine (awake17_ok _).mono ?_; rintro r5 w5 ⟨rfl, b5⟩)
            go_ret
            exact ⟨rfl, RB.trans (b5.mono RB.size)⟩
end Go.Proofs.Ythifeccmbojcdaa
