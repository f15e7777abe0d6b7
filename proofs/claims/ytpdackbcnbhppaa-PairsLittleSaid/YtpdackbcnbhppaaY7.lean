/- The reference's Find walked. -/
import Derived.Test.YtpdackbcnbhppaaY3
import Derived.Test.YtpdackbcnbhppaaR13
import Derived.Test.YtpdackbcnbhppaaD5
namespace Go.Proofs.Ytpdackbcnbhppaa
open Go.RowKit
attribute [local go_sem] Oper.semAt_some

theorem fold_ok : ∀ (ms : List Mk) {p : PS} {k : Nat}, PSok p k → PSok (ms.foldl stpM p) (k + ms.length)
  | [], _, _, h => h
  | m :: ms, p, k, h => by
    rw [List.foldl_cons, List.length_cons, ← Nat.add_assoc, Nat.add_right_comm]
    exact fold_ok ms (stpM_ok h m)
theorem take_fold {ms : List Mk} {i : Nat} {m : Mk} (h : ms[i]? = some m) (p : PS) : (ms.take (i + 1)).foldl stpM p = stpM ((ms.take i).foldl stpM p) m := by
  rw [List.take_add_one, h, List.foldl_append]; rfl
theorem fold_all {ms : List Mk} {i : Nat} {p : PS} (h : ms.length ≤ i ∨ ((ms.take i).foldl stpM p).ov = true) : ms.foldl stpM p = (ms.take i).foldl stpM p := by
  rcases h with h | h
  · rw [List.take_of_length_le h]
  · conv => lhs; rw [← List.take_append_drop i ms, List.foldl_append]
    exact fold_over _ h

set_option maxRecDepth 100000 in
set_option maxHeartbeats 4000000 in
theorem rFind_ok {w : World} {Bp Br Bs rc : Nat} {pv sv : Value} {rest : Int} {ch : List Chr} {rA : Option Addr} {rs : List Int} {s : Sq} (hP : PropsIs w Bp pv rest ch) (hR : RdInts w Br .i32 rA rs) (hS : SqIs w Bs sv s) (hn : s.pl.length ≤ 1048576) :
    Calls Try.prog 30 #[pv, .slice rA rs.length rc, sv] w fun r w' => ∃ v, r = .returned (.tuple #[v, .int .i64 (mayL rs.length s)]) ∧ Rw brC 2 w' w.heap.size 65 v (findF ch rs s) ∧ Below w.heap.size w w' := by
  replace hP := hP.clip
  replace hR := hR.clip
  have CM : ∀ W, Aft w W → chkL s = 0 → mayL rs.length s = 0 → Calls Try.prog 66 #[pv, .slice rA rs.length rc, sv] W fun r w' => ∃ v, r = .returned v ∧ Rw m3C 3 w' W.heap.size 128 v (mkT ch rs s s.pl.length) ∧ Below W.heap.size W w' :=
    fun W hW h0 h1 => rMarks_ok (hP.below hW (.inr (Nat.le_refl _))) (hR.aft hW) (hS.below hW (.inr (Nat.le_refl _))) hn (chk_pos h0).2 (may_zero h1).2
  have CK : ∀ W, Aft w W → Calls Try.prog 65 #[sv] W fun r w' => r = .returned (.int .i64 (chkL s)) ∧ Below W.heap.size W w' := by
    intro W hW
    obtain ⟨A, A2, c, c2, rfl, h1, h2, h3, h4⟩ := hS
    exact r19Check_ok rfl rfl (h1.aft hW) (h2.aft hW) (by omega)
  obtain ⟨F, hF⟩ : ∃ F, findF ch rs s = F := ⟨_, rfl⟩
  obtain ⟨m, hm⟩ : ∃ m, mayL rs.length s = m := ⟨_, rfl⟩
  obtain ⟨e, he⟩ : ∃ e, chkL s = e := ⟨_, rfl⟩
  obtain ⟨rn, hrl⟩ : ∃ rn, rs.length = rn := ⟨_, rfl⟩
  rw [hF, hm, hrl]
  rw [hm, he, hrl] at CM
  rw [he] at CK
  rw [hrl] at hm
  have HRL := Lib.hid hrl
  have HM := Lib.hid hm
  have HE := Lib.hid he
  have HFF := Lib.hid hF
  obtain ⟨A, A2, c, c2, hsv, h1, h2, h3, h4⟩ := hS
  replace h1 := h1.clip
  obtain ⟨n, hnn⟩ : ∃ n, s.pl.length = n := ⟨_, rfl⟩
  rw [hnn] at hsv hn h3 CM
  have HN := Lib.hid hnn
  subst hsv
  simp only [Sq.is] at CM CK ⊢
  obtain ⟨n2, hn2⟩ : ∃ n2, s.cs.length = n2 := ⟨_, rfl⟩
  rw [hn2] at h4 CM CK ⊢
  have HN2 := Lib.hid hn2
  obtain ⟨pA, pc, rfl, hPr, hPn⟩ := hP
  obtain ⟨pn, hpn⟩ : ∃ pn, ch.length = pn := ⟨_, rfl⟩
  rw [hpn] at CM hPn ⊢
  have HPN := Lib.hid hpn
  have HCM := Lib.hid CM
  clear hrl hnn hn2 hpn hm he hF CM h2 hPr
  obtain ⟨W1, hW1⟩ : ∃ W1, (w.alloc (.cells #[.int .u8 rest, .slice pA pn pc] 52)).alloc (.cells #[.slice A n c, .slice A2 n2 c2, .int .i8 s.lv, .int .u8 s.so, .int .u8 s.eo] 35) = W1 := ⟨_, rfl⟩
  have b1 : Below w.heap.size w W1 := by rw [← hW1]; exact ((Below.refl _ w).alloc (Nat.le_refl _) _).alloc (by simp) _
  have X3 : Blk W1 w.heap.size 52 #[.int .u8 rest, .slice pA pn pc] := by rw [← hW1]; exact (Blk.new w 52 _).alloc _
  have X5 : Blk W1 (w.heap.size + 1) 35 #[.slice A n c, .slice A2 n2 c2, .int .i8 s.lv, .int .u8 s.so, .int .u8 s.eo] := by rw [← hW1]; exact Blk.at_ (by simp)
  have HW1 := Lib.hid hW1
  have CK1 := CK W1 b1
  clear hW1 CK
  obtain ⟨x0, x1, x2, x3, x4, xf, xl⟩ := X5.c5
  by_cases he0 : e = 0
  · subst he0
    have hmt := may_two (n := rn) HE.out
    rw [HM.out] at hmt
    have HMT := Lib.hid hmt
    clear hmt
    go_enter Try.func30, Try.ntmps30
    go_upto_region 1 with (fail)
    rw [HW1.out]
    go_wp2_with (go_at_call 65; refine CK1.mono ?_; rintro r1 w1 ⟨rfl, b2⟩)
    have X31 := X3.below b2 X3.lt
    have X51 := X5.below b2 X5.lt
    clear x0 x1 x2 x3 x4 xf xl
    obtain ⟨x0, x1, x2, x3, x4, xf, xl⟩ := X51.c5
    obtain ⟨y0, y1, yf, yl⟩ := X31.c2
    have h11 := (h1.below b1 (.inl (Nat.le_refl _))).aft b2
    have b12 : Aft w w1 := b1.trans (b2.mono b1.size)
    go_loopg [9] n (fun gk iv wr => ∃ i : Nat, i + gk = n ∧ iv = .int .i64 i ∧ (∀ j, j < i → s.pl.getD j 0 < (rn : Int)) ∧ wr = w1)
    case atStart => exact ⟨0, by omega, rfl, fun j h => by omega, rfl⟩
    case round =>
      obtain ⟨i, hi, rfl, hlo, rfl⟩ := hrel
      have HI := Lib.hid hi
      have HLO := Lib.hid hlo
      clear hi hlo
      by_cases hlt : i < n
      · obtain ⟨ab, ao, rfl, a1, a2, ca⟩ := h11.at_ (i := i) (by have := HN.out; omega)
        obtain ⟨q, hq⟩ : ∃ q, s.pl.getD i 0 = q := ⟨_, rfl⟩
        rw [hq] at ca
        have HQ := Lib.hid hq
        clear hq
        by_cases hge : (rn : Int) ≤ q
        · have hm2 : m = 2 := by rw [HMT.out, if_pos ⟨i, by have := HN.out; omega, by rw [HQ.out]; exact hge⟩]
          subst hm2
          have hf : F = [] := by rw [← HFF.out]; unfold findF; rw [if_neg (by rw [HRL.out, HM.out]; decide)]
          have hgd : decide ((rn : Int) ≤ q) = true := by simpa using hge
          go_wp2
          go_ret2
          exact ⟨_, rfl, by rw [hf]; exact Rw.nil _ _ _, b12⟩
        · have hgd : decide ((rn : Int) ≤ q) = false := by simpa using hge
          go_wp2
          go_roundg (n - (i + 1))
          case rel => exact ⟨i + 1, by have := HI.out; omega, by go_num, fun j hj => (by by_cases hji : j = i
                                                                                         · subst hji; rw [HQ.out]; omega
                                                                                         · exact HLO.out j (by omega)), rfl⟩
          case measure => have := HI.out; omega
      · have hin : i = n := by have := HI.out; omega
        subst hin
        have hm0 : m = 0 := by
          rw [HMT.out, if_neg]
          rintro ⟨j, hj, h⟩
          have := HLO.out j (by have := HN.out; omega)
          omega
        subst hm0
        clear HLO HI hlt
        have CM2 : ∀ W, Aft w W → Calls Try.prog 66 #[.agg #[.int .u8 rest, .slice pA pn pc], .slice rA rn rc, .agg #[.slice A i c, .slice A2 n2 c2, .int .i8 s.lv, .int .u8 s.so, .int .u8 s.eo]] W fun r w' => ∃ v, r = .returned v ∧ Rw m3C 3 w' W.heap.size 128 v (mkT ch rs s i) ∧ Below W.heap.size W w' := fun W hW => HCM.out W hW (by trivial) (by trivial)
        have Y0 := Blk.new wr 86 #[.slice none 0 0, .bool false, .slice none 0 0]
        have hms := mkT_len ch rs s i
        have hfd : fdT ch rs s i = (mkT ch rs s i).foldl stpM ⟨[], [], false⟩ := rfl
        obtain ⟨M, hM⟩ : ∃ M, mkT ch rs s i = M := ⟨_, rfl⟩
        rw [hM] at hms hfd CM2
        have HFD := Lib.hid hfd
        clear hfd hM
        go_wp2_with (go_at_call 66; refine (CM2 _ (Aft.alloc b12 _)).mono ?_; rintro r2 w2 ⟨v2, rfl, R2, b3⟩; obtain ⟨mA, mc, hv2, _, _, _⟩ := R2.val; subst hv2)
        obtain ⟨ml, hml⟩ : ∃ ml, M.length = ml := ⟨_, rfl⟩
        rw [hml] at hms R2 ⊢
        have HML := Lib.hid hml
        have Y1 := Y0.below b3 (by simp)
        have b4 : Aft w w2 := (Aft.alloc b12 _).trans b3
        have hu : w.heap.size ≤ wr.heap.size := b12.size
        obtain ⟨u, hue⟩ : ∃ u, wr.heap.size = u := ⟨_, rfl⟩
        rw [hue] at Y1 hu
        have R3 : Rw m3C 3 w2 (u + 1) 128 (.slice mA ml mc) M := R2.base (fun j e => by have := (R2.lt j e).1; simp at this; omega)
        rw [hue]
        clear hml hue Y0 CM2 CK1 x0 x1 x2 x3 x4 xf xl y0 y1 yf yl b3 R2
        obtain ⟨V, rfl⟩ : ∃ V, V = w2 := ⟨_, rfl⟩
        have hul := Y1.lt
        obtain ⟨W0, rfl⟩ : ∃ W0, W0 = wr := ⟨_, rfl⟩
        go_loopg [12] ml (fun gk iv wr => ∃ (k : Nat) (A A' : Option Addr) (c c' ll fl : Nat) (l f : List (Int × Int)) (ov : Bool), k + gk = ml ∧ iv = .int .i64 k ∧ l.length = ll ∧ f.length = fl ∧ (M.take k).foldl stpM ⟨[], [], false⟩ = ⟨l, f, ov⟩ ∧ Blk wr u 86 #[.slice A ll c, .bool ov, .slice A' fl c'] ∧ RPil wr (.agg #[.slice A ll c, .bool ov, .slice A' fl c']) l f ov ∧ (∀ q, rAd (.agg #[.slice A ll c, .bool ov, .slice A' fl c']) q → q < wr.heap.size) ∧ Frm (fun j => j = u) V wr)
        case atStart => exact ⟨0, none, none, 0, 0, 0, 0, [], [], false, by omega, rfl, rfl, rfl, rfl, Y1, ⟨none, none, 0, 0, rfl, Nat.le_refl _, Nat.le_refl _, Reads.none_, Reads.none_⟩, (fun q ⟨o, h⟩ => by rcases h with h | h <;> cases h), Frm.refl _ _⟩
        case round =>
          obtain ⟨k, lA, fA, lc, fc, ll, fl, l, f, ov, hk, rfl, hll, hfl, hfold, Y, RP, hra, bb⟩ := hrel
          have hok : PSok ⟨l, f, ov⟩ (0 + (M.take k).length) := by rw [← hfold]; exact fold_ok _ ⟨by simp, by simp, fun h => by cases h⟩
          have hl63 : l.length ≤ 63 := hok.1
          have hfk : f.length ≤ 1048576 := by have := hok.2.1; simp only at this; rw [List.length_take] at this; omega
          have hovl : ov = true → l = [] := hok.2.2
          have HK := Lib.hid hk
          have HFO := Lib.hid hfold
          clear hk hfold hok Y1
          obtain ⟨p0, p1, p2, pf, pl⟩ := Y.c3
          by_cases hend : k < ml ∧ ov = false
          · obtain ⟨hlt, rfl⟩ := hend
            obtain ⟨x, hx⟩ : ∃ x, M[k]? = some x := ⟨_, List.getElem?_eq_getElem (by have := HML.out; omega)⟩
            have hnx := take_fold hx ⟨[], [], false⟩
            rw [HFO.out] at hnx
            obtain ⟨mb, mo, rfl, m1, m2, hcm⟩ := ((R3.frm bb (fun j e h => by have := (R3.lt j e).1; have h : j = u := h; omega)).rd).at_ enc3 hx (by omega)
            have c0 := hcm 0 _ rfl
            have c1 := hcm 1 _ rfl
            have cc2 := hcm 2 _ rfl
            rw [Nat.add_zero] at c0
            rw [← Nat.add_assoc] at c1 cc2
            obtain ⟨xi, xs, xk⟩ := x
            simp only at c0 c1 cc2 hnx
            clear hcm hx hovl
            have hst : stpM ⟨l, f, false⟩ ⟨xi, xs, xk⟩ = if xs = 1 then ⟨opL l false xi xk, f, opV l false⟩ else ⟨clL l xk, clF l f xi xk, false⟩ := by
              unfold stpM; rw [if_neg (fun h => by cases h)]
            rw [hst] at hnx
            have HNX := Lib.hid hnx
            have HLL := Lib.hid hll
            have HFL := Lib.hid hfl
            clear hst hnx hll hfl
            by_cases hs1 : xs = 1
            · subst hs1
              have hs1b : ((1 : Int) == 1) = true := by simp
              have HNY := Lib.hid (HNX.out.trans (if_pos rfl))
              clear HNX
              have CO : ∀ W, Aft wr W → Calls Try.prog 44 #[.agg #[.slice lA ll lc, .bool false, .slice fA fl fc], .int .i64 xi, .int .i32 xk] W fun r w' => ∃ pv', r = .returned (.tuple #[pv', .int .i64 (opE l false)]) ∧ RPil w' pv' (opL l false xi xk) (f) (opV l false) ∧ Below W.heap.size W w' ∧ RAd W w' (.agg #[.slice lA ll lc, .bool false, .slice fA fl fc]) pv' := fun W hW => rOpen2_ok xi xk (RP.below hW (Nat.le_refl _)) hl63 (fun h => by cases h)
              have keep : ∀ W, Aft wr W → W.cell? ⟨u, 0, none⟩ = some (.slice lA ll lc) ∧ W.cell? ⟨u, 1, none⟩ = some (.bool false) ∧ W.cell? ⟨u, 2, none⟩ = some (.slice fA fl fc) ∧ W.cell? ⟨mb, mo + k * 3, none⟩ = some (.int .i64 xi) ∧ W.cell? ⟨mb, mo + k * 3 + 2, none⟩ = some (.int .i32 xk) := by
                intro W hW
                obtain ⟨k1, -⟩ := bcell hW
                rw [k1 _ _ pl, k1 _ _ pl, k1 _ _ pl, k1 _ _ m2, k1 _ _ m2]
                exact ⟨p0, p1, p2, c0, cc2⟩
              have KEEP := Lib.hid keep
              clear keep
              obtain ⟨L, hL⟩ : ∃ L, opL l false xi xk = L := ⟨_, rfl⟩
              obtain ⟨F2, hF2⟩ : ∃ F2, f = F2 := ⟨_, rfl⟩
              obtain ⟨ov, hov⟩ : ∃ ov, opV l false = ov := ⟨_, rfl⟩
              obtain ⟨en, hee⟩ : ∃ en, opE l false = en := ⟨_, rfl⟩
              rw [hL, hF2, hov, hee] at CO
              rw [hL, hF2, hov] at HNY
              clear hL hF2 hov hee
              obtain ⟨ll', hll'⟩ : ∃ ll', L.length = ll' := ⟨_, rfl⟩
              obtain ⟨fl', hfl'⟩ : ∃ fl', F2.length = fl' := ⟨_, rfl⟩
              have HLL' := Lib.hid hll'
              have HFL' := Lib.hid hfl'
              clear hll' hfl'
              go_wp2
              refine wpIn_wide.1 (wpIn_region_vars (d := 0) (c := 11) (av := [(15, 16)]) (vars := [⟨15, 16, 86, #[.slice none 0 0, .bool false, .slice none 0 0], fun r => aggV (extV 0 r)⟩])
                (K := [(0, 0), (0, 0), (0, 0), (0, 0), (0, 0), (0, 0), (0, 0), (0, 0), (0, 0), (0, 0), (0, 0), (1, 0), (0, 0), (0, 0), (0, 0), (2, 0), (3, 0), (0, 0)])
                (U := [none, none, none, none, none, none, none, none, none, none, none, some 11, some 11, some 11, some 11, some 15, some 11, some 11]) (E := [])
                (vs := [.inl (.agg #[.slice lA ll lc, .bool false, .slice fA fl fc]), .inl (.slice (some ⟨mb, mo, none⟩) ml mc), .inl (.int .i64 k), .inl (.pointer (some ⟨mb, mo + k * 3, none⟩)), .inl (.pointer (some ⟨mb, mo + k * 3, none⟩)), .inl (.int .i64 xi),
                  .inl (.slice (some ⟨mb, mo, none⟩) ml mc), .inl (.int .i64 k), .inl (.pointer (some ⟨mb, mo + k * 3, none⟩)), .inl (.pointer (some ⟨mb, mo + k * 3 + 2, none⟩)), .inl (.int .i32 xk),
                  .inr (11, id), .inr (11, id), .inr (11, extV 0), .inr (11, extV 1), .inr (15, id), .inr (11, fun _ => undef), .inr (11, extV 1)])
                (R := fun r => ∃ A' B' c' d', r = .tuple #[.agg #[.slice A' ll' c', .bool ov, .slice B' fl' d'], .int .i64 en])
                (T := fun r W => RPil W (extV 0 r) L F2 ov ∧ ∀ q, rAd (extV 0 r) q → q < W.heap.size)
                (by kernel_rfl) (by kernel_rfl) rfl rfl (by kernel_rfl) (by kernel_rfl) ?_ ?_)
              · simp only [List.map_cons, List.map_nil, valV, id, putAll, Act.put, List.setIfInBounds_toArray, List.set_cons_zero, List.set_cons_succ]
                refine ⟨?_, ?_, ?_, ?_, ?_, ?_, ?_, ?_, ?_, ?_, ?_, ?_, ?_, ?_, ?_, ?_, ?_, ?_, trivial⟩
                all_goals first
                  | (intro ρ W hA _; obtain ⟨k0, k1, k2, k3, k4⟩ := KEEP.out W hA; simp only [valV, id]; go_simp; done)
                  | (intro ρ W hA hu; obtain ⟨A', B', c', d', e⟩ := hu rfl; simp only [valV, e, extV_20, extV_21]; go_simp; done)
                  | (refine ⟨fun _ => rfl, fun ρ W => ?_⟩; go_simp; done)
                  | skip
                · refine ⟨fun _ => rfl, fun ρ W hA => ⟨44, #[.agg #[.slice lA ll lc, .bool false, .slice fA fl fc], .int .i64 xi, .int .i32 xk], ?_, ?_⟩⟩
                  · go_simp
                  · refine (CO W hA).mono ?_
                    rintro r w3 ⟨pv', rfl, hRP, b3, ha3⟩
                    have hRP2 := hRP
                    obtain ⟨A', B', c', d', rfl, _, _, _, _⟩ := hRP
                    rw [HLL'.out, HFL'.out] at ha3 hRP2
                    have hstay : ∀ q, rAd (.agg #[.slice A' ll' c', .bool ov, .slice B' fl' d']) q → q < wr.heap.size ∨ W.heap.size ≤ q ∧ q < w3.heap.size := fun q h => (ha3 q h).imp (hra q) id
                    refine ⟨_, rfl, ⟨A', B', c', d', by rw [HLL'.out, HFL'.out]⟩, b3, fun W' hF => ⟨?_, ?_⟩⟩
                    · rw [HLL'.out, HFL'.out]
                      exact RPil.apart hRP2 hF (fun q h ⟨h1, h2, _⟩ => by rcases hstay q h with h3 | h3 <;> omega)
                    · rw [HLL'.out, HFL'.out]
                      intro q h
                      have := hF.size
                      have := b3.size
                      have := hA.le
                      rcases hstay q h with h3 | h3 <;> omega
                · intro ρ W q hq ⟨A', B', c', d', e⟩ hb
                  have hq : ρ 15 = .pointer (some ⟨q, 0, none⟩) := hq
                  have hb : Blk W q 86 #[.slice none 0 0, .bool false, .slice none 0 0] := hb
                  obtain ⟨y0, y1, y2, yf, yl⟩ := hb.c3
                  refine ⟨((W.setCell ⟨q, 0, none⟩ (.slice A' ll' c')).setCell ⟨q, 1, none⟩ (.bool ov)).setCell ⟨q, 2, none⟩ (.slice B' fl' d'), ?_, ?_, ?_⟩
                  · simp only [hq, e, extV_20, extV_21]; go_simp
                  · have := ((hb.set_ 0 (.slice A' ll' c')).set_ 1 (.bool ov)).set_ 2 (.slice B' fl' d')
                    simpa [e, extV, aggV] using this
                  · exact (((Frm.refl (fun k => k = q) W).set rfl _).set rfl _).set rfl _
              · intro ρ W hA ⟨A', B', c', d', e⟩ hT hv hd
                obtain ⟨q, hq, hqs, Y2⟩ := hv _ List.mem_cons_self
                have hq : ρ 15 = .pointer (some ⟨q, 0, none⟩) := hq
                simp only [e, extV_20, aggV_at] at Y2 hT
                obtain ⟨hT, hT2⟩ := hT
                have YW := Y.aft hA
                simp only [List.map_cons, List.map_nil, valV, id, putAll, Act.put, List.setIfInBounds_toArray, List.set_cons_zero, List.set_cons_succ, hq, e, extV_20, extV_21]
                clear hv hd e hq p0 p1 p2 pf pl c0 c1 cc2
                obtain ⟨p0, p1, p2, pf, pl⟩ := YW.c3
                obtain ⟨y0, y1, y2, yf, yl⟩ := Y2.c3
                have F9 : Frm (fun j => j = u) W (((W.setCell ⟨u, 0, none⟩ (.slice A' ll' c')).setCell ⟨u, 1, none⟩ (.bool ov)).setCell ⟨u, 2, none⟩ (.slice B' fl' d')) := (((Frm.refl (fun j => j = u) W).set rfl _).set rfl _).set rfl _
                have Y9 : Blk (((W.setCell ⟨u, 0, none⟩ (.slice A' ll' c')).setCell ⟨u, 1, none⟩ (.bool ov)).setCell ⟨u, 2, none⟩ (.slice B' fl' d')) u 86 #[.slice A' ll' c', .bool ov, .slice B' fl' d'] := by
                  simpa using ((YW.set_ 0 (.slice A' ll' c')).set_ 1 (.bool ov)).set_ 2 (.slice B' fl' d')
                have hT9 := hT.var F9 (fun k e => ⟨86, #[.slice lA ll lc, .bool false, .slice fA fl fc], by have e : k = u := e; rw [e]; exact YW, by simp [noInt]⟩)
                have hlen : (L.length = ll') ∧ (F2.length = fl') := ⟨HLL'.out, HFL'.out⟩
                have F10 : Frm (fun j => j = u) V (((W.setCell ⟨u, 0, none⟩ (.slice A' ll' c')).setCell ⟨u, 1, none⟩ (.bool ov)).setCell ⟨u, 2, none⟩ (.slice B' fl' d')) := (bb.trans (Frm.of_below (F := fun j => j = u) hA) (fun _ _ h => h)).trans F9 (fun _ _ h => h)
                have HLEN := Lib.hid hlen
                have hsz9 := F9.size
                clear hlen KEEP CO hra Y RP
                go_wp2
                go_roundg (ml - (k + 1))
                case rel => exact ⟨k + 1, A', B', c', d', ll', fl', L, F2, _, by have := HK.out; omega, by go_num, HLEN.out.1, HLEN.out.2, HNY.out, Y9, hT9, (fun q h => Nat.lt_of_lt_of_le (hT2 q h) hsz9), F10⟩
                case measure => have := HK.out; omega
            · have hs1b : (xs == 1) = false := by simpa using hs1
              have HNY := Lib.hid (HNX.out.trans (if_neg hs1))
              clear HNX
              have CO : ∀ W, Aft wr W → Calls Try.prog 42 #[.agg #[.slice lA ll lc, .bool false, .slice fA fl fc], .int .i64 xi, .int .i32 xk] W fun r w' => ∃ pv', r = .returned (.tuple #[pv', .agg #[.int .i64 (clB l xi xk).1, .int .i64 (clB l xi xk).2], .bool (clI l xk)]) ∧ RPil w' pv' (clL l xk) (clF l f xi xk) (false) ∧ Below W.heap.size W w' ∧ RAd W w' (.agg #[.slice lA ll lc, .bool false, .slice fA fl fc]) pv' := fun W hW => rClose2_ok xi xk (RP.below hW (Nat.le_refl _)) (by omega) hfk
              have keep : ∀ W, Aft wr W → W.cell? ⟨u, 0, none⟩ = some (.slice lA ll lc) ∧ W.cell? ⟨u, 1, none⟩ = some (.bool false) ∧ W.cell? ⟨u, 2, none⟩ = some (.slice fA fl fc) ∧ W.cell? ⟨mb, mo + k * 3, none⟩ = some (.int .i64 xi) ∧ W.cell? ⟨mb, mo + k * 3 + 2, none⟩ = some (.int .i32 xk) := by
                intro W hW
                obtain ⟨k1, -⟩ := bcell hW
                rw [k1 _ _ pl, k1 _ _ pl, k1 _ _ pl, k1 _ _ m2, k1 _ _ m2]
                exact ⟨p0, p1, p2, c0, cc2⟩
              have KEEP := Lib.hid keep
              clear keep
              obtain ⟨L, hL⟩ : ∃ L, clL l xk = L := ⟨_, rfl⟩
              obtain ⟨F2, hF2⟩ : ∃ F2, clF l f xi xk = F2 := ⟨_, rfl⟩
              obtain ⟨z1, hz1⟩ : ∃ z1, (clB l xi xk).1 = z1 := ⟨_, rfl⟩
              obtain ⟨z2, hz2⟩ : ∃ z2, (clB l xi xk).2 = z2 := ⟨_, rfl⟩
              obtain ⟨zi, hzi⟩ : ∃ zi, clI l xk = zi := ⟨_, rfl⟩
              rw [hL, hF2, hz1, hz2, hzi] at CO
              rw [hL, hF2] at HNY
              clear hL hF2 hz1 hz2 hzi
              obtain ⟨ll', hll'⟩ : ∃ ll', L.length = ll' := ⟨_, rfl⟩
              obtain ⟨fl', hfl'⟩ : ∃ fl', F2.length = fl' := ⟨_, rfl⟩
              have HLL' := Lib.hid hll'
              have HFL' := Lib.hid hfl'
              clear hll' hfl'
              go_wp2
              refine wpIn_wide.1 (wpIn_region_vars (d := 0) (c := 11) (av := [(16, 18), (17, 19)]) (vars := [⟨16, 18, 86, #[.slice none 0 0, .bool false, .slice none 0 0], fun r => aggV (extV 0 r)⟩, ⟨17, 19, 65, #[.int .i64 0, .int .i64 0], fun r => aggV (extV 1 r)⟩])
                (K := [(0, 0), (0, 0), (0, 0), (0, 0), (0, 0), (0, 0), (0, 0), (0, 0), (0, 0), (0, 0), (0, 0), (1, 0), (0, 0), (0, 0), (0, 0), (0, 0), (2, 0), (2, 1), (3, 0), (3, 1), (0, 0)])
                (U := [none, none, none, none, none, none, none, none, none, none, none, some 11, some 11, some 11, some 11, some 11, some 16, some 17, some 11, some 11, some 11]) (E := [])
                (vs := [.inl (.agg #[.slice lA ll lc, .bool false, .slice fA fl fc]), .inl (.slice (some ⟨mb, mo, none⟩) ml mc), .inl (.int .i64 k), .inl (.pointer (some ⟨mb, mo + k * 3, none⟩)), .inl (.pointer (some ⟨mb, mo + k * 3, none⟩)), .inl (.int .i64 xi),
                  .inl (.slice (some ⟨mb, mo, none⟩) ml mc), .inl (.int .i64 k), .inl (.pointer (some ⟨mb, mo + k * 3, none⟩)), .inl (.pointer (some ⟨mb, mo + k * 3 + 2, none⟩)), .inl (.int .i32 xk),
                  .inr (11, id), .inr (11, id), .inr (11, extV 0), .inr (11, extV 1), .inr (11, extV 2), .inr (16, id), .inr (17, id), .inr (11, fun _ => undef), .inr (11, fun _ => undef), .inr (11, extV 2)])
                (R := fun r => ∃ A' B' c' d', r = .tuple #[.agg #[.slice A' ll' c', .bool false, .slice B' fl' d'], .agg #[.int .i64 z1, .int .i64 z2], .bool zi])
                (T := fun r W => RPil W (extV 0 r) L F2 false ∧ ∀ q, rAd (extV 0 r) q → q < W.heap.size)
                (by kernel_rfl) (by kernel_rfl) rfl rfl (by kernel_rfl) (by kernel_rfl) ?_ ?_)
              · simp only [List.map_cons, List.map_nil, valV, id, putAll, Act.put, List.setIfInBounds_toArray, List.set_cons_zero, List.set_cons_succ]
                refine ⟨?_, ?_, ?_, ?_, ?_, ?_, ?_, ?_, ?_, ?_, ?_, ?_, ?_, ?_, ?_, ?_, ?_, ?_, ?_, ?_, ?_, trivial⟩
                all_goals first
                  | (intro ρ W hA _; obtain ⟨k0, k1, k2, k3, k4⟩ := KEEP.out W hA; simp only [valV, id]; go_simp; done)
                  | (intro ρ W hA hu; obtain ⟨A', B', c', d', e⟩ := hu rfl; simp only [valV, e, extV_30, extV_31, extV_32]; go_simp; done)
                  | (refine ⟨fun _ => rfl, fun ρ W => ?_⟩; go_simp; done)
                  | skip
                · refine ⟨fun _ => rfl, fun ρ W hA => ⟨42, #[.agg #[.slice lA ll lc, .bool false, .slice fA fl fc], .int .i64 xi, .int .i32 xk], ?_, ?_⟩⟩
                  · go_simp
                  · refine (CO W hA).mono ?_
                    rintro r w3 ⟨pv', rfl, hRP, b3, ha3⟩
                    have hRP2 := hRP
                    obtain ⟨A', B', c', d', rfl, _, _, _, _⟩ := hRP
                    rw [HLL'.out, HFL'.out] at ha3 hRP2
                    have hstay : ∀ q, rAd (.agg #[.slice A' ll' c', .bool false, .slice B' fl' d']) q → q < wr.heap.size ∨ W.heap.size ≤ q ∧ q < w3.heap.size := fun q h => (ha3 q h).imp (hra q) id
                    refine ⟨_, rfl, ⟨A', B', c', d', by rw [HLL'.out, HFL'.out]⟩, b3, fun W' hF => ⟨?_, ?_⟩⟩
                    · rw [HLL'.out, HFL'.out]
                      exact RPil.apart hRP2 hF (fun q h ⟨h1, h2, _⟩ => by rcases hstay q h with h3 | h3 <;> omega)
                    · rw [HLL'.out, HFL'.out]
                      intro q h
                      have := hF.size
                      have := b3.size
                      have := hA.le
                      rcases hstay q h with h3 | h3 <;> omega
                · intro ρ W q hq ⟨A', B', c', d', e⟩ hb
                  have hq : ρ 16 = .pointer (some ⟨q, 0, none⟩) := hq
                  have hb : Blk W q 86 #[.slice none 0 0, .bool false, .slice none 0 0] := hb
                  obtain ⟨y0, y1, y2, yf, yl⟩ := hb.c3
                  refine ⟨((W.setCell ⟨q, 0, none⟩ (.slice A' ll' c')).setCell ⟨q, 1, none⟩ (.bool false)).setCell ⟨q, 2, none⟩ (.slice B' fl' d'), ?_, ?_, ?_⟩
                  · simp only [hq, e, extV_30, extV_31, extV_32]; go_simp
                  · have := ((hb.set_ 0 (.slice A' ll' c')).set_ 1 (.bool false)).set_ 2 (.slice B' fl' d')
                    simpa [e, extV, aggV] using this
                  · exact (((Frm.refl (fun k => k = q) W).set rfl _).set rfl _).set rfl _
                · intro ρ W q hq ⟨A', B', c', d', e⟩ hb
                  have hq : ρ 17 = .pointer (some ⟨q, 0, none⟩) := hq
                  have hb : Blk W q 65 #[.int .i64 0, .int .i64 0] := hb
                  obtain ⟨y0, y1, yf, yl⟩ := hb.c2
                  refine ⟨(W.setCell ⟨q, 0, none⟩ (.int .i64 z1)).setCell ⟨q, 1, none⟩ (.int .i64 z2), ?_, ?_, ?_⟩
                  · simp only [hq, e, extV_30, extV_31, extV_32]; go_simp
                  · have := (hb.set_ 0 (.int .i64 z1)).set_ 1 (.int .i64 z2)
                    simpa [e, extV, aggV] using this
                  · exact ((Frm.refl (fun k => k = q) W).set rfl _).set rfl _
              · intro ρ W hA ⟨A', B', c', d', e⟩ hT hv hd
                obtain ⟨q, hq, hqs, Y2⟩ := hv _ List.mem_cons_self
                have hq : ρ 16 = .pointer (some ⟨q, 0, none⟩) := hq
                obtain ⟨q2, hq2, hqs2, Y22⟩ := hv _ (List.mem_cons_of_mem _ List.mem_cons_self)
                have hq2 : ρ 17 = .pointer (some ⟨q2, 0, none⟩) := hq2
                simp only [e, extV_30, aggV_at] at Y2 hT
                obtain ⟨hT, hT2⟩ := hT
                have YW := Y.aft hA
                simp only [List.map_cons, List.map_nil, valV, id, putAll, Act.put, List.setIfInBounds_toArray, List.set_cons_zero, List.set_cons_succ, hq, hq2, e, extV_30, extV_31, extV_32]
                clear hv hd e hq p0 p1 p2 pf pl c0 c1 cc2 hq2
                obtain ⟨p0, p1, p2, pf, pl⟩ := YW.c3
                obtain ⟨y0, y1, y2, yf, yl⟩ := Y2.c3
                have F9 : Frm (fun j => j = u) W (((W.setCell ⟨u, 0, none⟩ (.slice A' ll' c')).setCell ⟨u, 1, none⟩ (.bool false)).setCell ⟨u, 2, none⟩ (.slice B' fl' d')) := (((Frm.refl (fun j => j = u) W).set rfl _).set rfl _).set rfl _
                have Y9 : Blk (((W.setCell ⟨u, 0, none⟩ (.slice A' ll' c')).setCell ⟨u, 1, none⟩ (.bool false)).setCell ⟨u, 2, none⟩ (.slice B' fl' d')) u 86 #[.slice A' ll' c', .bool false, .slice B' fl' d'] := by
                  simpa using ((YW.set_ 0 (.slice A' ll' c')).set_ 1 (.bool false)).set_ 2 (.slice B' fl' d')
                have hT9 := hT.var F9 (fun k e => ⟨86, #[.slice lA ll lc, .bool false, .slice fA fl fc], by have e : k = u := e; rw [e]; exact YW, by simp [noInt]⟩)
                have hlen : (L.length = ll') ∧ (F2.length = fl') := ⟨HLL'.out, HFL'.out⟩
                have F10 : Frm (fun j => j = u) V (((W.setCell ⟨u, 0, none⟩ (.slice A' ll' c')).setCell ⟨u, 1, none⟩ (.bool false)).setCell ⟨u, 2, none⟩ (.slice B' fl' d')) := (bb.trans (Frm.of_below (F := fun j => j = u) hA) (fun _ _ h => h)).trans F9 (fun _ _ h => h)
                have HLEN := Lib.hid hlen
                have hsz9 := F9.size
                clear hlen KEEP CO hra Y RP
                go_wp2
                go_roundg (ml - (k + 1))
                case rel => exact ⟨k + 1, A', B', c', d', ll', fl', L, F2, _, by have := HK.out; omega, by go_num, HLEN.out.1, HLEN.out.2, HNY.out, Y9, hT9, (fun q h => Nat.lt_of_lt_of_le (hT2 q h) hsz9), F10⟩
                case measure => have := HK.out; omega
          · have hfin : M.foldl stpM ⟨[], [], false⟩ = ⟨l, f, ov⟩ := by
              rw [← HFO.out]
              refine fold_all ?_
              by_cases hlt : k < ml
              · right
                rw [HFO.out]
                show ov = true
                cases ov
                · exact absurd ⟨hlt, rfl⟩ hend
                · rfl
              · left
                have := HML.out; omega
            have hF : F = ssort f := by rw [← HFF.out]; unfold findF; rw [HRL.out, HM.out, if_pos rfl, HN.out, HFD.out, hfin]
            have hFr : RdR brC 2 wr wr.heap.size fA f := by
              obtain ⟨A9, A9', c9, c9', hRe, _, _, _, h⟩ := RP
              cases hRe
              exact h
            have CS := rSorted_ok (w := wr) (c := fc) hfl.symm hFr (by omega)
            have bfin : Aft w wr := Below.trans b4 (bb.below (by have := b4.le; omega) (fun k hk e => by have e : k = u := e; omega))
            have HF := Lib.hid hF
            clear hfin hF hll hfl hfk RP hra hFr hovl Y bb
            by_cases hlt : k < ml
            · have hov : ov = true := by
                cases ov
                · exact absurd ⟨hlt, rfl⟩ hend
                · rfl
              subst hov
              go_wp2_with (go_at_call 47; refine CS.mono ?_; rintro r9 w9 ⟨v9, rfl, R9, b9⟩)
              go_ret2
              exact ⟨v9, rfl, by rw [HF.out]; exact R9.base (fun j e => by have := (R9.lt j e).1; have := bfin.le; omega), bfin.trans b9⟩
            · go_wp2_with (go_at_call 47; refine CS.mono ?_; rintro r9 w9 ⟨v9, rfl, R9, b9⟩)
              go_ret2
              exact ⟨v9, rfl, by rw [HF.out]; exact R9.base (fun j e => by have := (R9.lt j e).1; have := bfin.le; omega), bfin.trans b9⟩
  · have hme : m = e := by rw [← HM.out]; unfold mayL; rw [if_pos (by rw [HE.out]; exact he0), HE.out]
    subst hme
    have hf : F = [] := by rw [← HFF.out]; unfold findF; rw [if_neg (by rw [HRL.out, HM.out]; exact he0)]
    have hm1 : (m != 0) = true := by simpa using he0
    go_enter Try.func30, Try.ntmps30
    go_upto_region 1 with (fail)
    rw [HW1.out]
    go_wp2_with (go_at_call 65; refine CK1.mono ?_; rintro r1 w1 ⟨rfl, b2⟩)
    go_ret2
    exact ⟨_, rfl, by rw [hf]; exact Rw.nil _ _ _, b1.trans (b2.mono b1.size)⟩
end Go.Proofs.Ytpdackbcnbhppaa
