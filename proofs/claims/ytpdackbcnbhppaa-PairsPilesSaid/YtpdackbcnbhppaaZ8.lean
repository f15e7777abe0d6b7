/- Two piles, any calls: every answer. -/
import Derived.Test.YtpdackbcnbhppaaD7
import Derived.Test.YtpdackbcnbhppaaR21
import Derived.Test.YtpdackbcnbhppaaY1
import Derived.Test.YtpdackbcnbhppaaY10
namespace Go.Proofs.Ytpdackbcnbhppaa
open Go.RowKit
attribute [local go_sem] Oper.semAt_some

theorem BrsAt.later {W W' : World} {B : Nat} {v : Value} {D : List (Int × Int)} (h : BrsAt W B v D) (hb : Aft W W') : BrsAt W' B v D := by
  rcases h with h | ⟨g, cap, h1, h2, h3, h4⟩
  · exact .inl h
  · exact .inr ⟨g, cap, h1, h2.below hb h2.lt, h3, h4⟩
theorem BrsAt.parts {W : World} {B : Nat} {v : Value} {D : List (Int × Int)} (h : BrsAt W B v D) : ∃ A c, v = .slice A D.length c ∧ RdR brC 2 W W.heap.size A D ∧ ∀ b off, A = some ⟨b, off, none⟩ → off = 0 ∧ B ≤ b ∧ b < W.heap.size ∧ Prs W b D ∧ D.length ≤ c := by
  rcases h with ⟨rfl, rfl⟩ | ⟨g, cap, rfl, h2, h3, h4⟩
  · exact ⟨none, 0, rfl, Reads.none_, fun b off e => by cases e⟩
  · exact ⟨some ⟨g, 0, none⟩, cap, rfl, h2.rd, fun b off e => by cases e; exact ⟨rfl, h3, h2.lt, h2, h4⟩⟩

structure Stp where
  a : Int
  cl : Bool
  at_ : Int
  key : Int
def stC (x : Stp) : List Value := [.int .i64 x.a, .bool x.cl, .int .i64 x.at_, .int .i32 x.key]
theorem encS : Enc stC 4 := ⟨fun _ => rfl, fun x u hu => by simp [stC] at hu; rcases hu with rfl | rfl | rfl | rfl <;> rfl⟩
def p0 (b b' : Nat) : Nat → PP := fun k => ⟨if k = 0 then b else b', .slice none 0 0, .slice none 0 0, [], [], false⟩
def r0 : Nat → RR := fun _ => ⟨.slice none 0 0, .bool false, .slice none 0 0, [], [], false⟩
theorem St.start {w w1 w2 : World} (h1 : Pil w1 w.heap.size w.heap.size (.slice none 0 0) (.slice none 0 0) [] [] false) (b1 : Below w.heap.size w w1)
    (h2 : Pil w2 w1.heap.size w1.heap.size (.slice none 0 0) (.slice none 0 0) [] [] false) (b2 : Below w1.heap.size w1 w2) {W : World} (hA : Aft w2 W) {u q : Nat} (hu : w2.heap.size ≤ u) (hq : w2.heap.size ≤ q) (huq : u ≠ q)
    (hU : Blk W u 83 #[.pointer (some ⟨w.heap.size, 0, none⟩), .pointer (some ⟨w1.heap.size, 0, none⟩)]) (hQ : Blk W q 87 #[.slice none 0 0, .bool false, .slice none 0 0, .slice none 0 0, .bool false, .slice none 0 0]) :
    St W w.heap.size u q (p0 w.heap.size w1.heap.size) r0 ∧ Cons 0 (p0 w.heap.size w1.heap.size) r0 := by
  have hs := b1.size
  have hl1 := h1.blk.lt
  have hl2 := h2.blk.lt
  have hF : ∀ k j, (p0 w.heap.size w1.heap.size k).F j → j = if k = 0 then w.heap.size else w1.heap.size := by
    intro k j h
    rcases h with h | h | h
    · exact h
    · simp [p0, Value.ownBlock] at h
    · simp [p0, Value.ownBlock] at h
  have hA0 : ∀ k j, ¬ rAd (r0 k).pv j := by
    rintro k j ⟨o, h | h⟩ <;> cases h
  have h1' := (h1.below b2 (Nat.le_refl _)).below hA (Nat.le_refl _)
  have h2' := h2.below hA (Nat.le_refl _)
  refine ⟨⟨fun k hk => ?_, fun k hk => ⟨none, none, 0, 0, rfl, Nat.le_refl _, Nat.le_refl _, Reads.none_, Reads.none_⟩, hU, hQ, huq, by omega, by omega, fun k hk j hj => ?_, fun k hk j hj => absurd hj (hA0 k j)⟩, ⟨fun _ _ => rfl, fun _ _ => rfl, fun _ _ => rfl, fun _ _ => by simp [p0], fun _ _ => by simp [p0], fun _ _ _ => rfl⟩⟩
  · match k, hk with
    | 0, _ => exact h1'
    | 1, _ => exact ⟨h2'.blk, h2'.rl.base (by simp [Value.ownBlock]), h2'.rf.base (by simp [Value.ownBlock]), h2'.a1, h2'.a2, by show w.heap.size ≤ w1.heap.size; omega⟩
  · have := hF k j hj
    refine ⟨?_, ?_, fun i _ => hA0 i j, fun i hi hne h2 => ?_⟩
    · split at this <;> omega
    · split at this <;> omega
    · have := hF i j h2
      match k, hk, i, hi with
      | 0, _, 0, _ => exact hne rfl
      | 0, _, 1, _ => simp at *; omega
      | 1, _, 0, _ => simp at *; omega
      | 1, _, 1, _ => exact hne rfl

set_option maxRecDepth 100000 in
set_option maxHeartbeats 4000000 in
theorem piles_walk {w : World} {A : Option Addr} {n c : Nat} {L : List Stp} (hn : n = L.length) (h : RdR stC 4 w w.heap.size A L) : Calls Try.prog 14 #[.slice A n c] w fun r w' => r = .returned (.bool true) ∧ Below w.heap.size w w' := by
  have HN := Lib.hid hn
  clear hn
  by_cases hlen : 1000 < n
  · go_enter Try.func14, Try.ntmps14
    go_wp2_with (go_at_call 27; refine (lives_ok _).mono ?_; rintro r1 w1 ⟨rfl, b1⟩)
    go_ret
    exact ⟨rfl, b1⟩
  have hn1000 : n ≤ 1000 := by omega
  have hM : n ≤ 4611686018427387904 := by omega
  go_enter Try.func14, Try.ntmps14
  go_wp2_with fail
  refine (lives_ok _).mono ?_
  rintro r1 w1 ⟨rfl, b1⟩
  have a1 : Aft w w1 := b1
  go_wp2_with fail
  refine PNew_ok.mono ?_
  rintro r2 w2 ⟨rfl, P2, b2⟩
  have a2 := a1.trans b2
  go_wp2_with fail
  refine PNew_ok.mono ?_
  rintro r3 w3 ⟨rfl, P3, b3⟩
  have a3 := a2.trans b3
  have XU := Blk.new w3 83 #[.pointer (some ⟨w1.heap.size, 0, none⟩), .pointer (some ⟨w2.heap.size, 0, none⟩)]
  have aU := (Aft.refl w3).alloc (.cells #[.pointer (some ⟨w1.heap.size, 0, none⟩), .pointer (some ⟨w2.heap.size, 0, none⟩)] 83)
  have Z := Blk.new w3 83 #[.pointer none, .pointer none]
  obtain ⟨z0, z1, zf, zl⟩ := Z.c2
  go_upto_region 4 with (fail)
  clear z0 z1 zf zl Z
  obtain ⟨W3, hW3⟩ : ∃ W3, w3.alloc (.cells #[.pointer (some ⟨w1.heap.size, 0, none⟩), .pointer (some ⟨w2.heap.size, 0, none⟩)] 83) = W3 := ⟨_, rfl⟩
  have hs3 : w3.heap.size + 1 = W3.heap.size := by rw [← hW3]; simp
  rw [hW3] at XU aU
  rw [hW3]
  clear hW3
  have XQ := Blk.new W3 87 #[.slice none 0 0, .bool false, .slice none 0 0, .slice none 0 0, .bool false, .slice none 0 0]
  have XU4 := XU.alloc (.cells #[.slice none 0 0, .bool false, .slice none 0 0, .slice none 0 0, .bool false, .slice none 0 0] 87)
  have a4 := aU.alloc (.cells #[.slice none 0 0, .bool false, .slice none 0 0, .slice none 0 0, .bool false, .slice none 0 0] 87)
  obtain ⟨x0, x1, xf, xl⟩ := XU4.c2
  obtain ⟨hSt, hCo⟩ := St.start P2 b2 P3 b3 a4 (Nat.le_refl _) (q := W3.heap.size) (by omega) (by omega) XU4 XQ
  have aW : Aft w (W3.alloc (.cells #[.slice none 0 0, .bool false, .slice none 0 0, .slice none 0 0, .bool false, .slice none 0 0] 87)) := a3.trans a4
  have hB : w.heap.size ≤ w1.heap.size := a1.le
  clear XQ XU4 a4 P2 P3 b2 b3 XU aU a3
  go_upto_region 7 with (fail)
  obtain ⟨W4, hW4⟩ : ∃ W4, W3.alloc (.cells #[.slice none 0 0, .bool false, .slice none 0 0, .slice none 0 0, .bool false, .slice none 0 0] 87) = W4 := ⟨_, rfl⟩
  rw [hW4] at hSt aW
  rw [hW4]
  clear hW4 x0 x1 xf xl
  obtain ⟨u, hu⟩ : ∃ u, w3.heap.size = u := ⟨_, rfl⟩
  obtain ⟨q, hq⟩ : ∃ q, W3.heap.size = q := ⟨_, rfl⟩
  obtain ⟨B, hBB⟩ : ∃ B, w1.heap.size = B := ⟨_, rfl⟩
  obtain ⟨b', hb'⟩ : ∃ b', w2.heap.size = b' := ⟨_, rfl⟩
  rw [hu, hq, hBB, hb'] at hSt
  rw [hBB, hb'] at hCo
  rw [hBB] at hB
  rw [hu, hq]
  obtain ⟨P0, hP0⟩ : ∃ P0, p0 B b' = P0 := ⟨_, rfl⟩
  rw [hP0] at hSt hCo
  clear hu hq hBB hb' hP0 hs3 a1 a2 b1
  go_wp2
  go_loopg [5] n (fun gk iv wr => ∃ (i : Nat) (p : Nat → PP) (r : Nat → RR), i + gk = n ∧ iv = .int .i64 i ∧ St wr B u q p r ∧ Cons i p r ∧ Aft w wr)
  case atStart => exact ⟨0, P0, r0, by omega, rfl, hSt, hCo, aW⟩
  case round =>
    obtain ⟨i, p, r, hi, rfl, S, CO, a5⟩ := hrel
    have HI := Lib.hid hi
    clear hi hSt hCo aW
    by_cases hlt : i < n
    · obtain ⟨x, hx⟩ : ∃ x, L[i]? = some x := ⟨_, List.getElem?_eq_getElem (by have := HN.out; omega)⟩
      obtain ⟨ab, off, rfl, d1, d2, hc⟩ := (h.below a5 (.inr (Nat.le_refl _))).at_ encS hx (by omega)
      have c0 := hc 0 _ rfl
      have c1 := hc 1 _ rfl
      have c2 := hc 2 _ rfl
      have c3 := hc 3 _ rfl
      rw [Nat.add_zero] at c0
      rw [← Nat.add_assoc] at c1 c2 c3
      obtain ⟨sa, scl, sat, sk⟩ := x
      simp only at c0 c1 c2 c3
      have hA1 := and1 sa
      obtain ⟨k, hk⟩ : ∃ k : Nat, sa % 2 = k := ⟨(sa % 2).toNat, by omega⟩
      have hk2 : k < 2 := by omega
      have hk0 : (0 : Int) ≤ (k : Int) := by omega
      have hkI : (k : Int) < 2 := by omega
      have hkI2 : (k : Int) ≤ 1 := by omega
      rw [hk] at hA1
      clear hc hx hk
      have X6 := Blk.new wr 89 #[.int .i64 sa, .bool scl, .int .i64 sat, .int .i32 sk]
      have S6 := S.aft ((Aft.refl wr).alloc (.cells #[.int .i64 sa, .bool scl, .int .i64 sat, .int .i32 sk] 89))
      have a6 := a5.alloc (.cells #[.int .i64 sa, .bool scl, .int .i64 sat, .int .i32 sk] 89)
      have Z6 := Blk.new wr 89 #[.int .i64 0, .bool false, .int .i64 0, .int .i32 0]
      obtain ⟨z0, z1, z2, z3, zf, zl⟩ := Z6.c4
      go_upto_region 11 with (fail)
      obtain ⟨W6, hW6⟩ : ∃ W6, wr.alloc (.cells #[.int .i64 sa, .bool scl, .int .i64 sat, .int .i32 sk] 89) = W6 := ⟨_, rfl⟩
      rw [hW6] at X6 S6 a6
      rw [hW6]
      obtain ⟨t, ht⟩ : ∃ t, wr.heap.size = t := ⟨_, rfl⟩
      have hts : t + 1 = W6.heap.size := by rw [← hW6, ← ht]; simp
      have hqt : q < t := by have := S.ref.lt; omega
      have hut : u < t := by have := S.arr.lt; omega
      have hot : ∀ i, i < 2 → ∀ j, (p i).F j → j < t := fun i hi j hj => by have := S.old hi hj; omega
      rw [ht] at X6
      rw [ht]
      clear z0 z1 z2 z3 zf zl Z6 hW6 S a5 ht
      obtain ⟨x0, x1, x2, x3, xf, xl⟩ := X6.c4
      cases scl
      case true =>
        obtain ⟨PK, hPK⟩ : ∃ PK, p k = PK := ⟨_, rfl⟩
        have hPk := S6.pil k hk2
        have hcP := S6.cellP hk2
        have hol := CO.ol k hk2
        have hll := CO.ll k hk2
        have hfl := CO.fl k hk2
        have hin : i < 1000 := by omega
        rw [hPK] at hPk hcP hol hll hfl
        have HPK := Lib.hid hPK
        clear hPK
        obtain ⟨pb, pvl, pvf, pl, pf, pov⟩ := PK
        simp only at hPk hcP hol hll hfl
        obtain ⟨z, hz⟩ : ∃ z, clB pl sat sk = z := ⟨_, rfl⟩
        obtain ⟨zi, hzi⟩ : ∃ zi, clI pl sk = zi := ⟨_, rfl⟩
        have CC : ∀ W, Aft W6 W → Calls Try.prog 41 #[.pointer (some ⟨pb, 0, none⟩), .int .i64 sat, .int .i32 sk] W fun r w' => r = .returned (.tuple #[.agg #[.int .i64 z.1, .int .i64 z.2], .bool zi]) ∧ ∃ vl' vf', Pil w' B pb vl' vf' (clL pl sk) (clF pl pf sat sk) pov ∧ Frm (PilF pb pvl pvf) W w' ∧
            ∀ j, PilF pb vl' vf' j → PilF pb pvl pvf j ∨ W.heap.size ≤ j := by
          intro W hA
          have := Pclose_any sat sk (hPk.below hA (Nat.le_refl _)) hol (by omega) (by omega)
          rw [hz, hzi] at this
          exact this
        have HZ := Lib.hid hz
        have HZI := Lib.hid hzi
        have KEEP : ∀ W, Aft W6 W → W.cell? ⟨u, k, none⟩ = some (.pointer (some ⟨pb, 0, none⟩)) ∧ W.cell? ⟨t, 2, none⟩ = some (.int .i64 sat) ∧ W.cell? ⟨t, 3, none⟩ = some (.int .i32 sk) := by
          intro W hA
          obtain ⟨k1, -, -⟩ := bcell hA
          rw [k1 _ _ (by omega), k1 _ _ xl, k1 _ _ xl]
          exact ⟨hcP, x2, x3⟩
        have HOL := Lib.hid hol
        clear hz hzi hol
        obtain ⟨z1, z2⟩ := z
        simp only at CC
        go_upto_region 13 with (fail)
        refine wpIn_wide.1 (wpIn_region_wvars (F := PilF pb pvl pvf) (d := 0) (c := 7) (av := [(11, 12)]) (vars := [⟨11, 12, 65, #[.int .i64 0, .int .i64 0], fun r => aggV (extV 0 r)⟩])
          (K := [(0, 0), (0, 0), (4, 0), (0, 0), (4, 0), (0, 0), (4, 0), (1, 0), (0, 0), (0, 0), (0, 0), (2, 0), (3, 0), (0, 0)])
          (U := [none, none, none, none, none, none, none, some 7, some 7, some 7, some 7, some 11, some 7, some 7]) (E := [])
          (vs := [.inl (.int .i64 k), .inl (.pointer (some ⟨u, k, none⟩)), .inl (.pointer (some ⟨pb, 0, none⟩)), .inl (.pointer (some ⟨t, 2, none⟩)), .inl (.int .i64 sat), .inl (.pointer (some ⟨t, 3, none⟩)), .inl (.int .i32 sk),
            .inr (7, id), .inr (7, id), .inr (7, extV 0), .inr (7, extV 1), .inr (11, id), .inr (7, fun _ => undef), .inr (7, extV 1)])
          (R := fun r => r = .tuple #[.agg #[.int .i64 z1, .int .i64 z2], .bool zi])
          (T := fun _ W => ∃ vl' vf', St W B u q (upd p k ⟨pb, vl', vf', clL pl sk, clF pl pf sat sk, pov⟩) r)
          (fun j hj => (hPk.lt j hj).2) (by kernel_rfl) (by kernel_rfl) rfl rfl (by kernel_rfl) (by kernel_rfl) ?_ ?_)
        · simp only [List.map_cons, List.map_nil, valV, id, putAll, Act.put, List.setIfInBounds_toArray, List.set_cons_zero, List.set_cons_succ]
          refine ⟨?_, ?_, ?_, ?_, ?_, ?_, ?_, ?_, ?_, ?_, ?_, ?_, ?_, ?_, trivial⟩
          all_goals first
            | (intro ρ W hA _; simp only [valV]; go_simp; done)
            | (intro ρ W hA; obtain ⟨k0, k1, k2⟩ := KEEP W hA; simp only [valV]; go_simp; done)
            | (intro ρ W hA hu; have e : ρ 7 = .tuple #[.agg #[.int .i64 z1, .int .i64 z2], .bool zi] := hu rfl; simp only [valV, e, extV_20, extV_21]; go_simp; done)
            | (refine ⟨fun _ => rfl, fun ρ W => ?_⟩; go_simp; done)
            | skip
          · refine ⟨fun _ => rfl, fun ρ W hA => ⟨41, #[.pointer (some ⟨pb, 0, none⟩), .int .i64 sat, .int .i32 sk], ?_, ?_⟩⟩
            · go_simp
            · refine (CC W hA).mono ?_
              rintro r7 w7 ⟨rfl, vl', vf', hP7, hF7, hn7⟩
              refine ⟨_, rfl, rfl, hF7, fun W' hF' => ⟨vl', vf', ?_⟩⟩
              have S7 := St.prog hk2 (S6.aft hA) ⟨pb, vl', vf', clL pl sk, clF pl pf sat sk, pov⟩ (by rw [HPK.out]) (by rw [HPK.out]; exact hF7) hP7 (by rw [HPK.out]; exact hn7)
              have hAs := hA.le
              refine S7.frm hF' (fun e => by have := S6.arr.lt; omega) (fun e => by have := S6.ref.lt; omega) (fun i hi j hj e => ?_) (fun i hi j hj e => by have := S6.apR i hi j hj; omega)
              by_cases eik : i = k
              · rw [eik, upd_at] at hj
                rcases hn7 j hj with h1 | h1
                · have := hPk.lt j h1; omega
                · omega
              · rw [upd_ne _ _ eik] at hj
                have := S6.old hi hj; omega
          · intro ρ W q2 hq2 e hb
            have hq2 : ρ 11 = .pointer (some ⟨q2, 0, none⟩) := hq2
            have e : ρ 7 = .tuple #[.agg #[.int .i64 z1, .int .i64 z2], .bool zi] := e
            have hb : Blk W q2 65 #[.int .i64 0, .int .i64 0] := hb
            obtain ⟨y0, y1, yf, yl⟩ := hb.c2
            refine ⟨(W.setCell ⟨q2, 0, none⟩ (.int .i64 z1)).setCell ⟨q2, 1, none⟩ (.int .i64 z2), ?_, ?_, ?_⟩
            · simp only [hq2, e, extV_20, extV_21]; go_simp
            · have := (hb.set_ 0 (.int .i64 z1)).set_ 1 (.int .i64 z2)
              simpa [e, extV, aggV] using this
            · exact ((Frm.refl (fun k => k = q2) W).set rfl _).set rfl _
        intro ρ W8 hF8 hR8 hT8 hv8 _
        have hR8 : ρ 7 = .tuple #[.agg #[.int .i64 z1, .int .i64 z2], .bool zi] := hR8
        obtain ⟨vl', vf', S8⟩ := hT8
        obtain ⟨q8, hq8, hqs8, Y8⟩ := hv8 _ List.mem_cons_self
        have hq8 : ρ 11 = .pointer (some ⟨q8, 0, none⟩) := hq8
        simp only [hR8, extV_20, aggV_at] at Y8
        simp only [List.map_cons, List.map_nil, valV, id, putAll, Act.put, List.setIfInBounds_toArray, List.set_cons_zero, List.set_cons_succ, hR8, hq8, extV_20, extV_21]
        have X8 := X6.frm hF8 (fun e => by have := hot k hk2 t (by rw [HPK.out]; exact e); omega)
        have a8 : Aft w W8 := Below.trans a6 (hF8.below a6.le (fun j hj e => by have := (hPk.lt j e).1; omega))
        clear KEEP CC hv8 hR8 hq8 hcP S6 X6 a6 hF8 x0 x1 x2 x3 xf xl
        have HCO := Lib.hid CO
        have hpv := S8.rp k hk2
        have hel := CO.el k hk2
        have hef := CO.ef k hk2
        have heo := CO.eo k hk2
        rw [HPK.out] at hel hef heo
        simp only at hel hef heo
        rw [hel, hef, heo] at hpv
        obtain ⟨hr0, hr1, hr2⟩ := S8.cellR hk2
        obtain ⟨RK, hRK⟩ : ∃ RK, r k = RK := ⟨_, rfl⟩
        rw [hRK] at hpv hr0 hr1 hr2
        have hapR := fun j hj => S8.apR k hk2 j hj
        rw [hRK] at hapR
        have HRK := Lib.hid hRK
        clear hRK hel hef heo CO
        obtain ⟨rx0, rx1, rx2, rl_, rf_, ro_⟩ := RK
        simp only [RR.pv] at hpv hr0 hr1 hr2 hapR
        obtain ⟨lA, fA, lc, fc, hpe, -, -, -, -⟩ := id hpv
        simp only [Value.agg.injEq, Array.mk.injEq, List.cons.injEq, and_true] at hpe
        obtain ⟨rfl, rfl, rfl⟩ := hpe
        obtain ⟨ll, hll2⟩ : ∃ ll, pl.length = ll := ⟨_, rfl⟩
        obtain ⟨fl, hfl2⟩ : ∃ fl, pf.length = fl := ⟨_, rfl⟩
        obtain ⟨L', hL'⟩ : ∃ L', clL pl sk = L' := ⟨_, rfl⟩
        obtain ⟨F', hF'⟩ : ∃ F', clF pl pf sat sk = F' := ⟨_, rfl⟩
        obtain ⟨ll', hll'⟩ : ∃ ll', L'.length = ll' := ⟨_, rfl⟩
        obtain ⟨fl', hfl'⟩ : ∃ fl', F'.length = fl' := ⟨_, rfl⟩
        have hL63 : L'.length ≤ 63 := by have := clLn pl sk; rw [hL'] at this; omega
        have hFl1 : F'.length ≤ i + 1 := by have := clFn pl pf sat sk; rw [hF'] at this; omega
        have hLo : pov = true → L' = [] := by rw [← hL']; exact clLov sk HOL.out
        have CR : ∀ W, Aft W8 W → Calls Try.prog 42 #[.agg #[.slice lA ll lc, .bool pov, .slice fA fl fc], .int .i64 sat, .int .i32 sk] W fun r w' => ∃ pv', r = .returned (.tuple #[pv', .agg #[.int .i64 z1, .int .i64 z2], .bool zi]) ∧ RPil w' pv' L' F' pov ∧ Below W.heap.size W w' ∧ RAd W w' (.agg #[.slice lA ll lc, .bool pov, .slice fA fl fc]) pv' := by
          intro W hA
          have := rClose2_ok sat sk (hpv.below hA (Nat.le_refl _)) (by omega) (by omega)
          rw [HZ.out, HZI.out, hL', hF', hll2, hfl2] at this
          exact this
        rw [hll2] at hr0 hpv hapR
        rw [hfl2] at hr2 hpv hapR
        rw [hL', hF'] at S8
        have HLL' := Lib.hid hll'
        have HFL' := Lib.hid hfl'
        have HLo := Lib.hid hLo
        have HL63 := Lib.hid hL63
        have HFl1 := Lib.hid hFl1
        clear hll2 hfl2 hL' hF' hll' hfl' hLo hL63 hFl1 hpv HOL hll hfl hPk
        obtain ⟨x0, x1, x2, x3, xf, xl⟩ := X8.c4
        have hul := S8.arr.lt
        have hql := S8.ref.lt
        have KEEP : ∀ W, Aft W8 W → (W.cell? ⟨q, k * 3, none⟩ = some (.slice lA ll lc) ∧ W.cell? ⟨q, k * 3 + 1, none⟩ = some (.bool pov) ∧ W.cell? ⟨q, k * 3 + 2, none⟩ = some (.slice fA fl fc)) ∧ W.cell? ⟨t, 2, none⟩ = some (.int .i64 sat) ∧ W.cell? ⟨t, 3, none⟩ = some (.int .i32 sk) := by
          intro W hA
          obtain ⟨k1, -, -⟩ := bcell hA
          rw [k1 _ _ hql, k1 _ _ hql, k1 _ _ hql, k1 _ _ xl, k1 _ _ xl]
          exact ⟨⟨hr0, hr1, hr2⟩, x2, x3⟩
        go_upto_region 14 with (fail)
        refine wpIn_wide.1 (wpIn_region_vars (d := 0) (c := 7) (av := [(12, 14), (13, 15)]) (vars := [⟨12, 14, 86, #[.slice none 0 0, .bool false, .slice none 0 0], fun r => aggV (extV 0 r)⟩, ⟨13, 15, 65, #[.int .i64 0, .int .i64 0], fun r => aggV (extV 1 r)⟩])
          (K := [(0, 0), (0, 0), (0, 0), (0, 0), (0, 0), (0, 0), (0, 0), (1, 0), (0, 0), (0, 0), (0, 0), (0, 0), (2, 0), (2, 1), (3, 0), (3, 1), (0, 0)])
          (U := [none, none, none, none, none, none, none, some 7, some 7, some 7, some 7, some 7, some 12, some 13, some 7, some 7, some 7]) (E := [])
          (vs := [.inl (.int .i64 k), .inl (.pointer (some ⟨q, k * 3, none⟩)), .inl (.agg #[.slice lA ll lc, .bool pov, .slice fA fl fc]), .inl (.pointer (some ⟨t, 2, none⟩)), .inl (.int .i64 sat), .inl (.pointer (some ⟨t, 3, none⟩)), .inl (.int .i32 sk),
            .inr (7, id), .inr (7, id), .inr (7, extV 0), .inr (7, extV 1), .inr (7, extV 2), .inr (12, id), .inr (13, id), .inr (7, fun _ => undef), .inr (7, fun _ => undef), .inr (7, extV 2)])
          (R := fun r => ∃ A' B' c' d', r = .tuple #[.agg #[.slice A' ll' c', .bool pov, .slice B' fl' d'], .agg #[.int .i64 z1, .int .i64 z2], .bool zi])
          (T := fun rr W => RPil W (extV 0 rr) L' F' pov ∧ ∀ j, rAd (extV 0 rr) j → j < W.heap.size ∧ j ≠ u ∧ j ≠ q ∧ ∀ i, i < 2 → ¬ (upd p k ⟨pb, vl', vf', L', F', pov⟩ i).F j)
          (by kernel_rfl) (by kernel_rfl) rfl rfl (by kernel_rfl) (by kernel_rfl) ?_ ?_)
        · simp only [List.map_cons, List.map_nil, valV, id, putAll, Act.put, List.setIfInBounds_toArray, List.set_cons_zero, List.set_cons_succ]
          refine ⟨?_, ?_, ?_, ?_, ?_, ?_, ?_, ?_, ?_, ?_, ?_, ?_, ?_, ?_, ?_, ?_, ?_, trivial⟩
          all_goals first
            | (intro ρ W hA _; obtain ⟨⟨k0, k1, k2⟩, k3, k4⟩ := KEEP W hA; simp only [valV, id]; go_simp; done)
            | (intro ρ W hA hu; obtain ⟨A', B', c', d', e⟩ := hu rfl; simp only [valV, e, extV_30, extV_31, extV_32]; go_simp; done)
            | (refine ⟨fun _ => rfl, fun ρ W => ?_⟩; go_simp; done)
            | skip
          · refine ⟨fun _ => rfl, fun ρ W hA => ⟨42, #[.agg #[.slice lA ll lc, .bool pov, .slice fA fl fc], .int .i64 sat, .int .i32 sk], ?_, ?_⟩⟩
            · go_simp
            · refine (CR W hA).mono ?_
              rintro r9 w9 ⟨pv', rfl, hRP, b9, ha9⟩
              have hRP2 := hRP
              obtain ⟨A', B', c', d', rfl, _, _, _, _⟩ := hRP
              rw [HLL'.out, HFL'.out] at ha9 hRP2
              have hstay : ∀ j, rAd (.agg #[.slice A' ll' c', .bool pov, .slice B' fl' d']) j → j < W8.heap.size ∧ j ≠ u ∧ j ≠ q ∧ (∀ i, i < 2 → ¬ (upd p k ⟨pb, vl', vf', L', F', pov⟩ i).F j) ∨ W.heap.size ≤ j ∧ j < w9.heap.size := by
                intro j h
                rcases ha9 j h with h | h
                · have hh := hapR j h
                  exact .inl ⟨hh.2.2, hh.1, hh.2.1, fun i hi h2 => (S8.apP i hi j h2).2.2.1 k hk2 (by rw [HRK.out]; exact h)⟩
                · exact .inr h
              have hle := hA.le
              have hb9 := b9.size
              refine ⟨_, rfl, ⟨A', B', c', d', by rw [HLL'.out, HFL'.out]⟩, b9, fun W' hF => ⟨?_, ?_⟩⟩
              · rw [HLL'.out, HFL'.out]
                exact RPil.apart hRP2 hF (fun j h ⟨h1, h2, _⟩ => by rcases hstay j h with h3 | h3 <;> omega)
              · rw [HLL'.out, HFL'.out]
                intro j h
                have := hF.size
                rcases hstay j h with h3 | h3
                · exact ⟨by omega, h3.2.1, h3.2.2.1, h3.2.2.2⟩
                · exact ⟨by omega, by omega, by omega, fun i hi h2 => by have := S8.old hi h2; omega⟩
          · intro ρ W q3 hq ⟨A', B', c', d', e⟩ hb
            have hq : ρ 12 = .pointer (some ⟨q3, 0, none⟩) := hq
            have hb : Blk W q3 86 #[.slice none 0 0, .bool false, .slice none 0 0] := hb
            obtain ⟨y0, y1, y2, yf, yl⟩ := hb.c3
            refine ⟨((W.setCell ⟨q3, 0, none⟩ (.slice A' ll' c')).setCell ⟨q3, 1, none⟩ (.bool pov)).setCell ⟨q3, 2, none⟩ (.slice B' fl' d'), ?_, ?_, ?_⟩
            · simp only [hq, e, extV_30, extV_31, extV_32]; go_simp
            · have := ((hb.set_ 0 (.slice A' ll' c')).set_ 1 (.bool pov)).set_ 2 (.slice B' fl' d')
              simpa [e, extV, aggV] using this
            · exact (((Frm.refl (fun k => k = q3) W).set rfl _).set rfl _).set rfl _
          · intro ρ W q3 hq ⟨A', B', c', d', e⟩ hb
            have hq : ρ 13 = .pointer (some ⟨q3, 0, none⟩) := hq
            have hb : Blk W q3 65 #[.int .i64 0, .int .i64 0] := hb
            obtain ⟨y0, y1, yf, yl⟩ := hb.c2
            refine ⟨(W.setCell ⟨q3, 0, none⟩ (.int .i64 z1)).setCell ⟨q3, 1, none⟩ (.int .i64 z2), ?_, ?_, ?_⟩
            · simp only [hq, e, extV_30, extV_31, extV_32]; go_simp
            · have := (hb.set_ 0 (.int .i64 z1)).set_ 1 (.int .i64 z2)
              simpa [e, extV, aggV] using this
            · exact ((Frm.refl (fun k => k = q3) W).set rfl _).set rfl _
        intro ρ9 W9 hA9 ⟨A', B', c', d', hR9⟩ hT9 hv9 hd9
        obtain ⟨q9, hq9, hqs9, Y9⟩ := hv9 _ List.mem_cons_self
        obtain ⟨q10, hq10, hqs10, Y10⟩ := hv9 _ (List.mem_cons_of_mem _ List.mem_cons_self)
        have hq9 : ρ9 12 = .pointer (some ⟨q9, 0, none⟩) := hq9
        have hq10 : ρ9 13 = .pointer (some ⟨q10, 0, none⟩) := hq10
        simp only [hR9, extV_30, extV_31, aggV_at] at Y9 Y10 hT9
        simp only [List.map_cons, List.map_nil, valV, id, putAll, Act.put, List.setIfInBounds_toArray, List.set_cons_zero, List.set_cons_succ, hR9, hq9, hq10, extV_30, extV_31, extV_32]
        have S9 := S8.aft hA9
        have a9 := a8.trans hA9
        have Y89 := Y8.aft hA9
        obtain ⟨hT9, hT9b⟩ := hT9
        obtain ⟨S10, F10⟩ := St.refs hk2 S9 ⟨.slice A' ll' c', .bool pov, .slice B' fl' d', L', F', pov⟩ hT9 hT9b
        have CO10 := Cons.step HCO.out hk2 ⟨pb, vl', vf', L', F', pov⟩ ⟨.slice A' ll' c', .bool pov, .slice B' fl' d', L', F', pov⟩ rfl rfl rfl HL63.out HFl1.out HLo.out
        simp only at S10 F10
        clear KEEP CR hv9 hd9 hR9 hq9 hq10 hr0 hr1 hr2 S8 hapR x0 x1 x2 x3 xf xl
        obtain ⟨y0, y1, y2, yf, yl⟩ := Y9.c3
        obtain ⟨v0, v1, vf, vl⟩ := Y10.c2
        obtain ⟨s0, s1, sf, sl⟩ := Y89.c2
        obtain ⟨qc0, qc1, qc2⟩ := S9.cellR hk2
        have qfr := S9.ref.frozen
        have hq9q : q9 ≠ q := by omega
        have hq10q : q10 ≠ q := by omega
        have hq8q : q8 ≠ q := by omega
        go_upto_region 16 with (fail)
        obtain ⟨WX, hWX⟩ : ∃ WX, ((W9.setCell ⟨q, k * 3, none⟩ (.slice A' ll' c')).setCell ⟨q, k * 3 + 1, none⟩ (.bool pov)).setCell ⟨q, k * 3 + 2, none⟩ (.slice B' fl' d') = WX := ⟨_, rfl⟩
        rw [hWX] at S10 F10
        rw [hWX]
        clear hWX
        have aX : Aft w WX := Below.trans a9 (F10.below a9.le (fun j hj e => by have := S9.hq; omega))
        have YA := Y89.frm F10 hq8q
        have YB := Y10.frm F10 hq10q
        clear y0 y1 y2 yf yl v0 v1 vf vl s0 s1 sf sl qc0 qc1 qc2 qfr Y89 Y10 Y9
        obtain ⟨v0, v1, vf, vl⟩ := YB.c2
        obtain ⟨s0, s1, sf, sl⟩ := YA.c2
        have hcx := S10.cellP hk2
        rw [upd_at] at hcx
        simp only at hcx
        have hrx := (S10.cellR hk2).1
        rw [upd_at] at hrx
        simp only at hrx
        have hPx := S10.pil k hk2
        rw [upd_at] at hPx
        simp only at hPx
        have CL : ∀ m, Calls Try.prog 45 #[.pointer (some ⟨pb, 0, none⟩)] (WX.drewN m) fun r w' => r = .returned (.int .i64 ll') ∧ w' = WX.drewN m := by
          intro m
          have := Plen_ok (hPx.drewN m)
          rw [HLL'.out] at this
          exact this
        have hul := S10.arr.lt
        have hql := S10.ref.lt
        clear S9 F10 a9 hPx
        obtain ⟨W00, rfl⟩ : ∃ W00, W00 = wr := ⟨_, rfl⟩
        go_wp2
        go_quiet ((go_at_call 45; first | (refine (CL 1).mono ?_; rintro e w9 ⟨rfl, rfl⟩) | (refine (CL _).mono ?_; rintro e w9 ⟨rfl, rfl⟩); first | exact ⟨rfl, _, rfl⟩ | exact ⟨rfl, _, World.drewN_drewN.symm⟩))
        go_wp2
        go_roundg (n - (i + 1))
        case rel => exact ⟨i + 1, _, _, by have := HI.out; omega, by go_num, S10.aft ((Aft.refl WX).drewN _), CO10, aX.drewN _⟩
        case measure => have := HI.out; omega
      case false =>
        obtain ⟨PK, hPK⟩ : ∃ PK, p k = PK := ⟨_, rfl⟩
        have hPk := S6.pil k hk2
        have hcP := S6.cellP hk2
        have hol := CO.ol k hk2
        have hll := CO.ll k hk2
        have hfl := CO.fl k hk2
        have hin : i < 1000 := by omega
        rw [hPK] at hPk hcP hol hll hfl
        have HPK := Lib.hid hPK
        clear hPK
        obtain ⟨pb, pvl, pvf, pl, pf, pov⟩ := PK
        simp only at hPk hcP hol hll hfl
        have CC : ∀ W, Aft W6 W → Calls Try.prog 43 #[.pointer (some ⟨pb, 0, none⟩), .int .i64 sat, .int .i32 sk] W fun r w' => r = .returned (.int .i64 (opE pl pov)) ∧ ∃ vl', Pil w' B pb vl' pvf (opL pl pov sat sk) pf (opV pl pov) ∧ Frm (PilF pb pvl pvf) W w' ∧
            ∀ j, PilF pb vl' pvf j → PilF pb pvl pvf j ∨ W.heap.size ≤ j := fun W hA => Popen_any sat sk (hPk.below hA (Nat.le_refl _))
        obtain ⟨E, hE⟩ : ∃ E, opE pl pov = E := ⟨_, rfl⟩
        obtain ⟨L', hL'⟩ : ∃ L', opL pl pov sat sk = L' := ⟨_, rfl⟩
        obtain ⟨V', hV'⟩ : ∃ V', opV pl pov = V' := ⟨_, rfl⟩
        have hL63 : L'.length ≤ 63 := by rw [← hL']; exact opLn pov sat sk hll
        have hLo : V' = true → L' = [] := by rw [← hL', ← hV']; exact opLov sat sk hol
        rw [hE, hL', hV'] at CC
        have HE := Lib.hid hE
        have HL := Lib.hid hL'
        have HV := Lib.hid hV'
        have HL63 := Lib.hid hL63
        have HLo := Lib.hid hLo
        clear hE hL' hV' hL63 hLo
        have KEEP : ∀ W, Aft W6 W → W.cell? ⟨u, k, none⟩ = some (.pointer (some ⟨pb, 0, none⟩)) ∧ W.cell? ⟨t, 2, none⟩ = some (.int .i64 sat) ∧ W.cell? ⟨t, 3, none⟩ = some (.int .i32 sk) := by
          intro W hA
          obtain ⟨k1, -, -⟩ := bcell hA
          rw [k1 _ _ (by omega), k1 _ _ xl, k1 _ _ xl]
          exact ⟨hcP, x2, x3⟩
        have HOL := Lib.hid hol
        clear hol
        go_upto_region 18 with (fail)
        refine wpIn_wide.1 (wpIn_region_wvars (F := PilF pb pvl pvf) (d := 0) (c := 7) (av := []) (vars := [])
          (K := [(0, 0), (0, 0), (4, 0), (0, 0), (4, 0), (0, 0), (4, 0), (1, 0), (0, 0)])
          (U := [none, none, none, none, none, none, none, some 7, some 7]) (E := [])
          (vs := [.inl (.int .i64 k), .inl (.pointer (some ⟨u, k, none⟩)), .inl (.pointer (some ⟨pb, 0, none⟩)), .inl (.pointer (some ⟨t, 2, none⟩)), .inl (.int .i64 sat), .inl (.pointer (some ⟨t, 3, none⟩)), .inl (.int .i32 sk),
            .inr (7, id), .inr (7, id)])
          (R := fun r => r = .int .i64 E)
          (T := fun _ W => ∃ vl', St W B u q (upd p k ⟨pb, vl', pvf, L', pf, V'⟩) r)
          (fun j hj => (hPk.lt j hj).2) (by kernel_rfl) (by kernel_rfl) rfl rfl (by kernel_rfl) (by kernel_rfl) ?_ ?_)
        · simp only [List.map_cons, List.map_nil, valV, id, putAll, Act.put, List.setIfInBounds_toArray, List.set_cons_zero, List.set_cons_succ]
          refine ⟨?_, ?_, ?_, ?_, ?_, ?_, ?_, ?_, ?_, trivial⟩
          all_goals first
            | (intro ρ W hA _; simp only [valV]; go_simp; done)
            | (intro ρ W hA; obtain ⟨k0, k1, k2⟩ := KEEP W hA; simp only [valV]; go_simp; done)
            | (intro ρ W hA hu; have e : ρ 7 = .int .i64 E := hu rfl; simp only [valV, id, e]; go_simp; done)
            | skip
          · refine ⟨fun _ => rfl, fun ρ W hA => ⟨43, #[.pointer (some ⟨pb, 0, none⟩), .int .i64 sat, .int .i32 sk], ?_, ?_⟩⟩
            · go_simp
            · refine (CC W hA).mono ?_
              rintro r7 w7 ⟨rfl, vl', hP7, hF7, hn7⟩
              refine ⟨_, rfl, rfl, hF7, fun W' hF' => ⟨vl', ?_⟩⟩
              have S7 := St.prog hk2 (S6.aft hA) ⟨pb, vl', pvf, L', pf, V'⟩ (by rw [HPK.out]) (by rw [HPK.out]; exact hF7) hP7 (by rw [HPK.out]; exact hn7)
              exact S7.frm hF' (fun ⟨_, _, m, hm, _⟩ => nomatch hm) (fun ⟨_, _, m, hm, _⟩ => nomatch hm) (fun _ _ _ _ ⟨_, _, m, hm, _⟩ => nomatch hm) (fun _ _ _ _ ⟨_, _, m, hm, _⟩ => nomatch hm)
        intro ρ W8 hF8 hR8 hT8 _ _
        have hR8 : ρ 7 = .int .i64 E := hR8
        obtain ⟨vl', S8⟩ := hT8
        simp only [List.map_cons, List.map_nil, valV, id, putAll, Act.put, List.setIfInBounds_toArray, List.set_cons_zero, List.set_cons_succ, hR8]
        have X8 := X6.frm hF8 (fun e => by have := hot k hk2 t (by rw [HPK.out]; exact e); omega)
        have a8 : Aft w W8 := Below.trans a6 (hF8.below a6.le (fun j hj e => by have := (hPk.lt j e).1; omega))
        clear KEEP CC hR8 hcP S6 X6 a6 hF8 x0 x1 x2 x3 xf xl
        have HCO := Lib.hid CO
        have hpv := S8.rp k hk2
        have hel := CO.el k hk2
        have hef := CO.ef k hk2
        have heo := CO.eo k hk2
        rw [HPK.out] at hel hef heo
        simp only at hel hef heo
        rw [hel, hef, heo] at hpv
        obtain ⟨hr0, hr1, hr2⟩ := S8.cellR hk2
        obtain ⟨RK, hRK⟩ : ∃ RK, r k = RK := ⟨_, rfl⟩
        rw [hRK] at hpv hr0 hr1 hr2
        have hapR := fun j hj => S8.apR k hk2 j hj
        rw [hRK] at hapR
        have HRK := Lib.hid hRK
        clear hRK hel hef heo CO
        obtain ⟨rx0, rx1, rx2, rl_, rf_, ro_⟩ := RK
        simp only [RR.pv] at hpv hr0 hr1 hr2 hapR
        obtain ⟨lA, fA, lc, fc, hpe, -, -, -, -⟩ := id hpv
        simp only [Value.agg.injEq, Array.mk.injEq, List.cons.injEq, and_true] at hpe
        obtain ⟨rfl, rfl, rfl⟩ := hpe
        obtain ⟨ll, hll2⟩ : ∃ ll, pl.length = ll := ⟨_, rfl⟩
        obtain ⟨fl, hfl2⟩ : ∃ fl, pf.length = fl := ⟨_, rfl⟩
        obtain ⟨ll', hll'⟩ : ∃ ll', L'.length = ll' := ⟨_, rfl⟩
        have CR : ∀ W, Aft W8 W → Calls Try.prog 44 #[.agg #[.slice lA ll lc, .bool pov, .slice fA fl fc], .int .i64 sat, .int .i32 sk] W fun r w' => ∃ pv', r = .returned (.tuple #[pv', .int .i64 E]) ∧ RPil w' pv' L' pf V' ∧ Below W.heap.size W w' ∧ RAd W w' (.agg #[.slice lA ll lc, .bool pov, .slice fA fl fc]) pv' := by
          intro W hA
          have := rOpen2_ok sat sk (hpv.below hA (Nat.le_refl _)) hll HOL.out
          rw [HE.out, HL.out, HV.out, hll2, hfl2] at this
          exact this
        rw [hll2] at hr0 hpv hapR
        rw [hfl2] at hr2 hpv hapR
        have HLL' := Lib.hid hll'
        have HFL' := Lib.hid hfl2
        clear hll2 hfl2 hll' hpv HOL hll hPk
        have HFl := Lib.hid hfl
        clear hfl
        obtain ⟨x0, x1, x2, x3, xf, xl⟩ := X8.c4
        have hul := S8.arr.lt
        have hql := S8.ref.lt
        have KEEP : ∀ W, Aft W8 W → (W.cell? ⟨q, k * 3, none⟩ = some (.slice lA ll lc) ∧ W.cell? ⟨q, k * 3 + 1, none⟩ = some (.bool pov) ∧ W.cell? ⟨q, k * 3 + 2, none⟩ = some (.slice fA fl fc)) ∧ W.cell? ⟨t, 2, none⟩ = some (.int .i64 sat) ∧ W.cell? ⟨t, 3, none⟩ = some (.int .i32 sk) := by
          intro W hA
          obtain ⟨k1, -, -⟩ := bcell hA
          rw [k1 _ _ hql, k1 _ _ hql, k1 _ _ hql, k1 _ _ xl, k1 _ _ xl]
          exact ⟨⟨hr0, hr1, hr2⟩, x2, x3⟩
        go_upto_region 19 with (fail)
        refine wpIn_wide.1 (wpIn_region_vars (d := 0) (c := 7) (av := [(11, 12)]) (vars := [⟨11, 12, 86, #[.slice none 0 0, .bool false, .slice none 0 0], fun r => aggV (extV 0 r)⟩])
          (K := [(0, 0), (0, 0), (0, 0), (0, 0), (0, 0), (0, 0), (0, 0), (1, 0), (0, 0), (0, 0), (0, 0), (2, 0), (3, 0), (0, 0)])
          (U := [none, none, none, none, none, none, none, some 7, some 7, some 7, some 7, some 11, some 7, some 7]) (E := [])
          (vs := [.inl (.int .i64 k), .inl (.pointer (some ⟨q, k * 3, none⟩)), .inl (.agg #[.slice lA ll lc, .bool pov, .slice fA fl fc]), .inl (.pointer (some ⟨t, 2, none⟩)), .inl (.int .i64 sat), .inl (.pointer (some ⟨t, 3, none⟩)), .inl (.int .i32 sk),
            .inr (7, id), .inr (7, id), .inr (7, extV 0), .inr (7, extV 1), .inr (11, id), .inr (7, fun _ => undef), .inr (7, extV 1)])
          (R := fun r => ∃ A' B' c' d', r = .tuple #[.agg #[.slice A' ll' c', .bool V', .slice B' fl d'], .int .i64 E])
          (T := fun rr W => RPil W (extV 0 rr) L' pf V' ∧ ∀ j, rAd (extV 0 rr) j → j < W.heap.size ∧ j ≠ u ∧ j ≠ q ∧ ∀ i, i < 2 → ¬ (upd p k ⟨pb, vl', pvf, L', pf, V'⟩ i).F j)
          (by kernel_rfl) (by kernel_rfl) rfl rfl (by kernel_rfl) (by kernel_rfl) ?_ ?_)
        · simp only [List.map_cons, List.map_nil, valV, id, putAll, Act.put, List.setIfInBounds_toArray, List.set_cons_zero, List.set_cons_succ]
          refine ⟨?_, ?_, ?_, ?_, ?_, ?_, ?_, ?_, ?_, ?_, ?_, ?_, ?_, ?_, trivial⟩
          all_goals first
            | (intro ρ W hA _; obtain ⟨⟨k0, k1, k2⟩, k3, k4⟩ := KEEP W hA; simp only [valV, id]; go_simp; done)
            | (intro ρ W hA hu; obtain ⟨A', B', c', d', e⟩ := hu rfl; simp only [valV, e, extV_20, extV_21]; go_simp; done)
            | (refine ⟨fun _ => rfl, fun ρ W => ?_⟩; go_simp; done)
            | skip
          · refine ⟨fun _ => rfl, fun ρ W hA => ⟨44, #[.agg #[.slice lA ll lc, .bool pov, .slice fA fl fc], .int .i64 sat, .int .i32 sk], ?_, ?_⟩⟩
            · go_simp
            · refine (CR W hA).mono ?_
              rintro r9 w9 ⟨pv', rfl, hRP, b9, ha9⟩
              have hRP2 := hRP
              obtain ⟨A', B', c', d', rfl, _, _, _, _⟩ := hRP
              rw [HLL'.out, HFL'.out] at ha9 hRP2
              have hstay : ∀ j, rAd (.agg #[.slice A' ll' c', .bool V', .slice B' fl d']) j → j < W8.heap.size ∧ j ≠ u ∧ j ≠ q ∧ (∀ i, i < 2 → ¬ (upd p k ⟨pb, vl', pvf, L', pf, V'⟩ i).F j) ∨ W.heap.size ≤ j ∧ j < w9.heap.size := by
                intro j h
                rcases ha9 j h with h | h
                · have hh := hapR j h
                  exact .inl ⟨hh.2.2, hh.1, hh.2.1, fun i hi h2 => (S8.apP i hi j h2).2.2.1 k hk2 (by rw [HRK.out]; exact h)⟩
                · exact .inr h
              have hle := hA.le
              have hb9 := b9.size
              refine ⟨_, rfl, ⟨A', B', c', d', by rw [HLL'.out, HFL'.out]⟩, b9, fun W' hF => ⟨?_, ?_⟩⟩
              · rw [HLL'.out, HFL'.out]
                exact RPil.apart hRP2 hF (fun j h ⟨h1, h2, _⟩ => by rcases hstay j h with h3 | h3 <;> omega)
              · rw [HLL'.out, HFL'.out]
                intro j h
                have := hF.size
                rcases hstay j h with h3 | h3
                · exact ⟨by omega, h3.2.1, h3.2.2.1, h3.2.2.2⟩
                · exact ⟨by omega, by omega, by omega, fun i hi h2 => by have := S8.old hi h2; omega⟩
          · intro ρ W q3 hq ⟨A', B', c', d', e⟩ hb
            have hq : ρ 11 = .pointer (some ⟨q3, 0, none⟩) := hq
            have hb : Blk W q3 86 #[.slice none 0 0, .bool false, .slice none 0 0] := hb
            obtain ⟨y0, y1, y2, yf, yl⟩ := hb.c3
            refine ⟨((W.setCell ⟨q3, 0, none⟩ (.slice A' ll' c')).setCell ⟨q3, 1, none⟩ (.bool V')).setCell ⟨q3, 2, none⟩ (.slice B' fl d'), ?_, ?_, ?_⟩
            · simp only [hq, e, extV_20, extV_21]; go_simp
            · have := ((hb.set_ 0 (.slice A' ll' c')).set_ 1 (.bool V')).set_ 2 (.slice B' fl d')
              simpa [e, extV, aggV] using this
            · exact (((Frm.refl (fun k => k = q3) W).set rfl _).set rfl _).set rfl _
        intro ρ9 W9 hA9 ⟨A', B', c', d', hR9⟩ hT9 hv9 hd9
        obtain ⟨q9, hq9, hqs9, Y9⟩ := hv9 _ List.mem_cons_self
        have hq9 : ρ9 11 = .pointer (some ⟨q9, 0, none⟩) := hq9
        simp only [hR9, extV_20, aggV_at] at Y9 hT9
        simp only [List.map_cons, List.map_nil, valV, id, putAll, Act.put, List.setIfInBounds_toArray, List.set_cons_zero, List.set_cons_succ, hR9, hq9, extV_20, extV_21]
        have S9 := S8.aft hA9
        have a9 := a8.trans hA9
        obtain ⟨hT9, hT9b⟩ := hT9
        obtain ⟨S10, F10⟩ := St.refs hk2 S9 ⟨.slice A' ll' c', .bool V', .slice B' fl d', L', pf, V'⟩ hT9 hT9b
        have CO10 := Cons.step HCO.out hk2 ⟨pb, vl', pvf, L', pf, V'⟩ ⟨.slice A' ll' c', .bool V', .slice B' fl d', L', pf, V'⟩ rfl rfl rfl HL63.out (Nat.le_succ_of_le HFl.out) HLo.out
        simp only at S10 F10
        clear KEEP CR hv9 hd9 hR9 hq9 hr0 hr1 hr2 S8 hapR x0 x1 x2 x3 xf xl
        obtain ⟨y0, y1, y2, yf, yl⟩ := Y9.c3
        obtain ⟨qc0, qc1, qc2⟩ := S9.cellR hk2
        have qfr := S9.ref.frozen
        have hq9q : q9 ≠ q := by omega
        go_upto_region 21 with (fail)
        obtain ⟨WX, hWX⟩ : ∃ WX, ((W9.setCell ⟨q, k * 3, none⟩ (.slice A' ll' c')).setCell ⟨q, k * 3 + 1, none⟩ (.bool V')).setCell ⟨q, k * 3 + 2, none⟩ (.slice B' fl d') = WX := ⟨_, rfl⟩
        rw [hWX] at S10 F10
        rw [hWX]
        clear hWX
        have aX : Aft w WX := Below.trans a9 (F10.below a9.le (fun j hj e => by have := S9.hq; omega))
        clear y0 y1 y2 yf yl qc0 qc1 qc2 qfr Y9
        have hcx := S10.cellP hk2
        rw [upd_at] at hcx
        simp only at hcx
        have hrx := (S10.cellR hk2).1
        rw [upd_at] at hrx
        simp only at hrx
        have hPx := S10.pil k hk2
        rw [upd_at] at hPx
        simp only at hPx
        have CL : ∀ m, Calls Try.prog 45 #[.pointer (some ⟨pb, 0, none⟩)] (WX.drewN m) fun r w' => r = .returned (.int .i64 ll') ∧ w' = WX.drewN m := by
          intro m
          have := Plen_ok (hPx.drewN m)
          rw [HLL'.out] at this
          exact this
        have hul := S10.arr.lt
        have hql := S10.ref.lt
        clear S9 F10 a9 hPx
        obtain ⟨W00, rfl⟩ : ∃ W00, W00 = wr := ⟨_, rfl⟩
        go_wp2
        go_quiet ((go_at_call 45; first | (refine (CL 1).mono ?_; rintro e w9 ⟨rfl, rfl⟩) | (refine (CL _).mono ?_; rintro e w9 ⟨rfl, rfl⟩); first | exact ⟨rfl, _, rfl⟩ | exact ⟨rfl, _, World.drewN_drewN.symm⟩))
        go_wp2
        go_roundg (n - (i + 1))
        case rel => exact ⟨i + 1, _, _, by have := HI.out; omega, by go_num, S10.aft ((Aft.refl WX).drewN _), CO10, aX.drewN _⟩
        case measure => have := HI.out; omega
    · have hie : i = n := by have := HI.out; omega
      subst hie
      clear HI hlt
      obtain ⟨WL, rfl⟩ : ∃ WL, WL = wr := ⟨_, rfl⟩
      go_wp2
      go_loopg [16] 2 (fun gk kv wr => ∃ k : Nat, k + gk = 2 ∧ kv = .int .i64 k ∧ Aft WL wr)
      case atStart => exact ⟨0, by omega, rfl, Aft.refl _⟩
      case round =>
        obtain ⟨k, hk, rfl, aL⟩ := hrel
        have HK := Lib.hid hk
        clear hk
        by_cases hk2 : k < 2
        · have hk0 : (0 : Int) ≤ (k : Int) := by omega
          have hkI : (k : Int) < 2 := by omega
          have hkI2 : (k : Int) ≤ 1 := by omega
          obtain ⟨WR, hWR⟩ : ∃ WR, WR = wr := ⟨_, rfl⟩
          rw [← hWR] at aL
          rw [← hWR]
          clear hWR
          have SR := S.aft aL
          have aR := a5.trans aL
          have hcP := SR.cellP hk2
          have hPk := SR.pil k hk2
          have hrp := SR.rp k hk2
          have hr2 := (SR.cellR hk2).2.2
          have hef := CO.ef k hk2
          have hfl := CO.fl k hk2
          rw [hef] at hrp
          obtain ⟨RK, hRK⟩ : ∃ RK, r k = RK := ⟨_, rfl⟩
          obtain ⟨PK, hPK⟩ : ∃ PK, p k = PK := ⟨_, rfl⟩
          rw [hRK] at hrp hr2
          rw [hPK] at hcP hPk hrp hfl
          clear hRK hPK hef CO
          obtain ⟨pb, pvl, pvf, pl, pf, pov⟩ := PK
          obtain ⟨rx0, rx1, rx2, rl_, rf_, ro_⟩ := RK
          simp only [RR.pv] at hcP hPk hrp hr2 hfl
          obtain ⟨lA, fA, lc, fc, hpe, -, -, -, hrdF⟩ := hrp
          simp only [Value.agg.injEq, Array.mk.injEq, List.cons.injEq, and_true] at hpe
          obtain ⟨rfl, rfl, rfl⟩ := hpe
          obtain ⟨D, hD⟩ : ∃ D, ssort pf = D := ⟨_, rfl⟩
          have hDl : D.length = pf.length := by rw [← hD, ssort_length]
          have CB : ∀ W, Aft WR W → Calls Try.prog 46 #[.pointer (some ⟨pb, 0, none⟩)] W fun r w' => ∃ v, r = .returned v ∧ BrsAt w' W.heap.size v D ∧ Below W.heap.size W w' := by
            intro W hA
            have := Pbraces_ok (hPk.below hA (Nat.le_refl _)) (by omega)
            rw [hD] at this
            exact this
          obtain ⟨fl, hfl2⟩ : ∃ fl, pf.length = fl := ⟨_, rfl⟩
          have CS : ∀ W, Aft WR W → Calls Try.prog 47 #[.slice fA fl fc] W fun r w' => ∃ v, r = .returned v ∧ Rw brC 2 w' W.heap.size 65 v D ∧ Below W.heap.size W w' := by
            intro W hA
            have := rSorted_ok (c := fc) hfl2.symm (hrdF.below hA (.inl (Nat.le_refl _))) (by omega)
            rw [hD] at this
            exact this
          obtain ⟨nd, hnd⟩ : ∃ nd, D.length = nd := ⟨_, rfl⟩
          have hnd1 : nd ≤ 1000 := by omega
          have CE : ∀ W B B' A A' c c', RdR brC 2 W B A D → RdR brC 2 W B' A' D → Calls Try.prog 31 #[.slice A nd c, .slice A' nd c'] W fun r w' => r = .returned (.bool true) ∧ ∃ m, w' = W.drewN m := by
            intro W B B' A A' c c' h1 h2
            have := sameB_ok (c := c) (c' := c') hnd.symm hnd.symm h1 h2 (by omega)
            have e : brEq D D = true := decide_eq_true rfl
            rw [e] at this
            exact this
          have HND := Lib.hid hnd
          have hul := SR.arr.lt
          have hql := SR.ref.lt
          rw [hfl2] at hr2
          clear hnd hfl2 hDl hD hfl hrdF hPk
          have cd : WR.drew.cell? ⟨u, k, none⟩ = some (.pointer (some ⟨pb, 0, none⟩)) := hcP
          have ad : Aft WR WR.drew := (Aft.refl WR).drew
          have KP : ∀ W, Aft WR W → W.cell? ⟨u, k, none⟩ = some (.pointer (some ⟨pb, 0, none⟩)) ∧ W.cell? ⟨q, k * 3 + 2, none⟩ = some (.slice fA fl fc) := by
            intro W hA
            obtain ⟨k1, -, -⟩ := bcell hA
            rw [k1 _ _ hul, k1 _ _ hql]
            exact ⟨hcP, hr2⟩
          have HKP := Lib.hid KP
          clear KP
          go_upto_region 28 with (fail)
          go_region_held3 (fun W => W.cell? ⟨u, k, none⟩ = some (.pointer (some ⟨pb, 0, none⟩)) ∧ Aft WR W) (refine ⟨?_, ?_⟩ <;> assumption)
            (first
              | (have tA := BA; go_at_call 46; refine (CB _ (by assumption)).mono ?_; rintro r6 w6 ⟨vb, rfl, BB, b6⟩; have aY : Aft WR w6 := Aft.trans (by assumption) b6; have cY := (HKP.out _ aY).1)
              | (go_at_call 46; refine (CB _ (by assumption)).mono ?_; rintro r5 w5 ⟨va, rfl, BA, b5⟩; have aX : Aft WR w5 := Aft.trans (by assumption) b5; have cX := (HKP.out _ aX).1))
          have hBA : BrsAt w5 WR.heap.size va D := BA
          have hBB : BrsAt w6 w5.heap.size vb D := BB
          have cQ := (HKP.out _ aY).2
          have hs5 := aX.le
          have hs6 := b6.size
          clear BA BB cX cY cd ad hcP hr2 SR
          go_wp2_with fail
          refine (CS _ aY).mono ?_
          rintro r7 w7 ⟨vw, rfl, RW, b7⟩
          have hs7 := b7.size
          have aZ := aY.trans b7
          have hFA := hBA.parts
          have hBA7 := (hBA.later b6).later b7
          have hBB7 := hBB.later b7
          obtain ⟨aA, ac, hva, RA, -⟩ := hBA7.parts
          obtain ⟨bA, bc, hvb, RB, hfB⟩ := hBB7.parts
          obtain ⟨wA, wc, hvw, -, -, RWd⟩ := RW.val
          rw [HND.out] at hva hvb hvw
          subst hva hvb hvw
          have hfA : ∀ b off, aA = some ⟨b, off, none⟩ → off = 0 ∧ WR.heap.size ≤ b ∧ b < w5.heap.size ∧ Prs w7 b D ∧ nd ≤ ac := by
            intro b off e
            obtain ⟨A', c', e1, -, h3⟩ := hFA
            cases e1
            obtain ⟨h4, h5, h6, h7, h8⟩ := h3 b off e
            exact ⟨h4, h5, h6, (h7.below b6 h6).below b7 (by omega), by rw [← HND.out]; exact h8⟩
          have HFA := Lib.hid hfA
          have HFB := Lib.hid hfB
          clear hBA hBB hFA hBA7 hBB7 hfA hfB b5 b6 b7 cQ aY aX
          go_wp2_with fail
          refine (CE _ _ _ _ _ _ _ RA RWd).mono ?_
          rintro r8 w8 ⟨rfl, d8, rfl⟩
          obtain ⟨s3, hs3⟩ : ∃ s3, WR.heap.size = s3 := ⟨_, rfl⟩
          obtain ⟨s4, hs4⟩ : ∃ s4, w5.heap.size = s4 := ⟨_, rfl⟩
          rw [hs3, hs4] at HFA
          rw [hs4] at HFB
          rw [hs3] at hul hql
          rw [hs3, hs4] at hs5
          rw [hs4] at hs6
          have HS3 := Lib.hid hs3
          clear hs3 hs4
          go_wp2
          go_loopg [20] nd (fun gk iv wr => ∃ i : Nat, i + gk = nd ∧ iv = .int .i64 i ∧ Frm (fun j => s3 ≤ j ∧ j < s4) w7 wr ∧ ∀ b off, aA = some ⟨b, off, none⟩ → ∃ D', D'.length = nd ∧ Prs wr b D')
          case atStart => exact ⟨0, by omega, rfl, (Frm.refl _ _).drewN _, fun b off e => ⟨D, HND.out, (HFA.out b off e).2.2.2.1.drewN _⟩⟩
          case round =>
            obtain ⟨i, hi, rfl, FF, PP⟩ := hrel
            have HI := Lib.hid hi
            have HPP := Lib.hid PP
            clear hi PP
            by_cases hlt : i < nd
            · obtain ⟨ga, off, rfl, e1, e2⟩ := RA.cons_some (by have := HND.out; omega)
              obtain ⟨rfl, hg3, hg4, _, hac⟩ := HFA.out ga _ rfl
              obtain ⟨D', hD', P'⟩ := HPP.out ga 0 rfl
              obtain ⟨p0, p1⟩ := P'.cell (i := i) (by omega)
              have pf0 := P'.free (i * 2)
              have pf1 := P'.free (i * 2 + 1)
              have pl := P'.lt
              have P2 := P'.set i (-9, 0)
              have hD2 : (D'.set i (-9, 0)).length = nd := by rw [List.length_set]; exact hD'
              have FF2 : Frm (fun j => s3 ≤ j ∧ j < s4) w7 ((wr.setCell ⟨ga, i * 2, none⟩ (.int .i64 (-9))).setCell ⟨ga, i * 2 + 1, none⟩ (.int .i64 0)) := Frm.set (F := fun j => s3 ≤ j ∧ j < s4) (b := ga) (j := i * 2 + 1) (Frm.set (F := fun j => s3 ≤ j ∧ j < s4) (b := ga) (j := i * 2) FF ⟨hg3, hg4⟩ _) ⟨hg3, hg4⟩ _
              have HD2 := Lib.hid hD2
              clear hD' hD2
              go_wp2
              go_roundg (nd - (i + 1))
              case rel => exact ⟨i + 1, by have := HI.out; omega, by go_num, FF2, fun b off e => by cases e; exact ⟨_, HD2.out, P2⟩⟩
              case measure => have := HI.out; omega
            · have hin : i = nd := by have := HI.out; omega
              subst hin
              have aE : Aft WR wr := Below.trans aZ (FF.below aZ.le (fun j hj e => by have := HS3.out; omega))
              have RB10 : RdR brC 2 wr w7.heap.size bA D := RB.frmA FF (fun b off e h => by have := HFB.out b off e; omega)
              have RW10 := (RW.frm FF (fun j e h => by have := (RW.lt j e).1; omega)).rd
              obtain ⟨cU, -⟩ := HKP.out _ aE
              have hwu : u < wr.heap.size := by have := aE.le; have := HS3.out; omega
              clear RA RB RW RWd HFA HFB HPP FF aZ
              obtain ⟨W00, rfl⟩ : ∃ W00, W00 = wr := ⟨_, rfl⟩
              go_wp2_with fail
              refine (CE _ _ _ _ _ _ _ RB10 RW10).mono ?_
              rintro r10 w10 ⟨rfl, d10, rfl⟩
              go_wp2_with fail
              refine (CB _ (aE.drewN d10)).mono ?_
              rintro r11 w11 ⟨vc, rfl, BC, b11⟩
              have a11 := (aE.drewN d10).trans b11
              obtain ⟨cA, cc, hvc, RC, -⟩ := BC.parts
              rw [HND.out] at hvc
              subst hvc
              have RW11 := RdR.below (w := W00.drewN d10) RW10 b11 (.inl (Nat.le_refl _))
              go_wp2_with fail
              refine (CE _ _ _ _ _ _ _ RC RW11).mono ?_
              rintro r12 w12 ⟨rfl, d12, rfl⟩
              go_wp2
              go_roundg (2 - (k + 1))
              case rel => exact ⟨k + 1, by have := HK.out; omega, by go_num, aL.trans (a11.drewN d12)⟩
              case measure => have := HK.out; omega
        · have hke : k = 2 := by have := HK.out; omega
          subst hke
          clear HK
          go_wp2
          go_ret
          exact ⟨rfl, a5.trans aL⟩
end Go.Proofs.Ytpdackbcnbhppaa
