/- StackSteps walked. -/
import Derived.Test.YtfelcmppopibcaaT3
import Derived.Test.YtfelcmppopibcaaL1
import Derived.Test.YtfelcmppopibcaaA2
import Derived.Test.YtfelcmppopibcaaT1
import Derived.Test.YtfelcmppopibcaaS7
import Derived.Deep.CutRange
import Derived.Deep.RegionWith
import Derived.Deep.RegionHeld3
namespace Go.Proofs.Ytfelcmppopibcaa
open Go.RowKit

def start (base : Int) : SS := ⟨[⟨base, 0, false⟩], 0, 0, 0⟩
def Fit (K : Nat) (i : Int) (base : Nat → Int) (s : Nat → SS) : Prop := ∀ k, k < K → WF (base k) (s k) ∧ (s k).i ≤ i ∧ (s k).m ≤ i
theorem Fit.lay {K K' a : Nat} {i i' : Int} {base : Nat → Int} {s : Nat → SS} {b' : Int} {s' : SS} (h : Fit K i base s) (hi : i ≤ i') (hK : ∀ k, k < K' → k = a ∨ k < K) (h1 : WF b' s') (h2 : s'.i ≤ i') (h3 : s'.m ≤ i') : Fit K' i' (upd base a b') (upd s a s') := by
  intro k hk
  by_cases hka : k = a
  · subst hka; rw [upd_self, upd_self]; exact ⟨h1, h2, h3⟩
  · rw [upd_ne _ _ hka, upd_ne _ _ hka]
    obtain ⟨k1, k2, k3⟩ := h k ((hK k hk).resolve_left hka)
    exact ⟨k1, by omega, by omega⟩

def TInv (w0 : World) (p r K : Nat) (i : Int) (W : World) : Prop :=
  ∃ b g A n c base s, Tri w0 K K p r b g A n c base s s W ∧ Fit K i base s

theorem Tri.any5 {w0 W : World} {P R p r : Nat} {b g : Nat → Nat} {A : Nat → Option Addr} {n c : Nat → Nat} {base : Nat → Int} {s t : Nat → SS} (h : Tri w0 P R p r b g A n c base s t W) {k : Nat} (hk : k < 3) :
    ∃ v0 v1 v2 v3 v4 v5, W.cell? ⟨r, k * 5, none⟩ = some v0 ∧ W.cell? ⟨r, k * 5 + 1, none⟩ = some v1 ∧ W.cell? ⟨r, k * 5 + 2, none⟩ = some v2 ∧ W.cell? ⟨r, k * 5 + 3, none⟩ = some v3 ∧ W.cell? ⟨r, k * 5 + 4, none⟩ = some v4 ∧ W.cell? ⟨p, k, none⟩ = some v5 := by
  obtain ⟨ra, h1, h2, -⟩ := h.rf.arr
  obtain ⟨pa, h3, h4, -⟩ := h.st.arr
  simp only [h1.cell, h3.cell]
  exact ⟨_, _, _, _, _, _, Array.getElem?_eq_getElem (by omega), Array.getElem?_eq_getElem (by omega), Array.getElem?_eq_getElem (by omega), Array.getElem?_eq_getElem (by omega), Array.getElem?_eq_getElem (by omega), Array.getElem?_eq_getElem (by omega)⟩

theorem Tri.alike {w0 W : World} {p r : Nat} {b g : Nat → Nat} {A : Nat → Option Addr} {n c : Nat → Nat} {base : Nat → Int} {s : Nat → SS} {i : Int} (h : Tri w0 3 3 p r b g A n c base s s W) (hF : Fit 3 i base s) {k : Nat} (hk : k < 3) :
    Calls Try.prog 28 #[.pointer (some ⟨b k, 0, none⟩), .agg #[.int .i8 (base k), .slice (A k) (n k) (c k), .int .i64 (s k).i, .int .i64 (s k).m, .int .i64 (s k).v]] W fun r w' => r = .returned (.bool true) ∧ Below W.heap.size W w' := by
  have h1 := h.st.st k hk
  have h2 := h.rf.rd k hk
  have h3 := (hF k hk).1.ents.ne
  generalize s k = st at h1 h2 h3 ⊢
  obtain ⟨l, i, m, v⟩ := st
  obtain ⟨e, l', rfl⟩ := h3
  exact alike_ok h1 h2

theorem TInv.next {w0 wr W : World} {p r K b' g' x : Nat} {b g : Nat → Nat} {A : Nat → Option Addr} {n c : Nat → Nat} {base : Nat → Int} {s : Nat → SS} {v : Int} (h : Tri w0 K K p r b g A n c base s s wr) (hF : Fit K 0 base s) (hK : K < 3) (hb : Below wr.heap.size wr W)
    (hS : StackIs W b' g' (start v)) (hb' : wr.heap.size ≤ b') (hg' : wr.heap.size ≤ g') (hbg : b' ≠ g') (hR : RefIs W v (some ⟨x, 0, none⟩) 1 1 (start v)) (hx : wr.heap.size ≤ x) (hxb : x ≠ b') (hxg : x ≠ g') (hv : v = 0 ∨ v = 1) :
    TInv w0 p r (K + 1) 0 ((((((W.setCell ⟨p, K, none⟩ (.pointer (some ⟨b', 0, none⟩))).setCell ⟨r, K * 5, none⟩ (.int .i8 v)).setCell ⟨r, K * 5 + 1, none⟩ (.slice (some ⟨x, 0, none⟩) 1 1)).setCell ⟨r, K * 5 + 2, none⟩ (.int .i64 0)).setCell ⟨r, K * 5 + 3, none⟩ (.int .i64 0)).setCell ⟨r, K * 5 + 4, none⟩ (.int .i64 0)) := by
  have hU := h.und
  have T3 := h.below hb
  have T4 := T3.layP (P' := K + 1) (a := K) hK (fun k hk => by omega) hU hS hb' hg' hbg
  have hf := (Frm.refl (fun k => k = p) W).set (j := K) rfl (.pointer (some ⟨b', 0, none⟩))
  have hR4 := RefIs.frm_ hR hf (fun y off e => by cases e; have := hU.1; omega)
  obtain ⟨y, off, e, hy⟩ := RefIs.lt hR (by simp [start])
  cases e
  refine ⟨_, _, _, _, _, _, _, T4.layR (R' := K + 1) (a := K) hK (fun k hk => by omega) hR4 ⟨x, 0, rfl, by simpa using hy, by have := hU.1; omega, by have := hU.2.1; omega, fun j hj => ?_⟩, hF.lay (Int.le_refl _) (fun k hk => by omega) (WF.start hv) (Int.le_refl _) (Int.le_refl _)⟩
  by_cases hj : j = K
  · subst hj; rw [upd_self, upd_self]; exact ⟨hxb, hxg⟩
  · rw [upd_ne _ _ hj, upd_ne _ _ hj]
    have := hU.2.2.1 j (by omega)
    omega

set_option maxRecDepth 100000 in
set_option maxHeartbeats 16000000 in
theorem steps_walk {w : World} (u0 u1 u2 : Int) {A : Option Addr} {len cap : Nat} (hc : len ≤ cap) (hs : StepsRd w w.heap.size A len) :
    Calls Try.prog 9 #[.agg #[.int .i8 u0, .int .i8 u1, .int .i8 u2], .slice A len cap] w fun e w' => e = .returned (.bool true) ∧ Below w.heap.size w w' := by
  go_enter Try.func9, Try.ntmps9
  by_cases hl : 2000 < len
  · go_wp2_with (go_at_call 17; refine (lives_ok _).mono ?_; rintro r2 w2 ⟨rfl, b2⟩)
    go_ret
    exact ⟨rfl, ((Below.refl _ w).alloc (Nat.le_refl _) _).trans (b2.mono (by simp))⟩
  · go_wp2_with (go_at_call 17; refine (lives_ok _).mono ?_; rintro r2 w2 ⟨rfl, b2⟩)
    have BB := ((Blk.new w 54 #[.int .i8 u0, .int .i8 u1, .int .i8 u2]).below b2 (by simp))
    have b02 := ((Below.refl _ w).alloc (Nat.le_refl _) (.cells #[.int .i8 u0, .int .i8 u1, .int .i8 u2] 54)).trans (b2.mono (by simp))
    have hs2 := b2.size
    simp only [World.size_alloc] at hs2
    clear b2
    go_loopg [7] 3 (fun gk iv wr => ∃ k : Nat, k + gk = 3 ∧ iv = .int .i64 k ∧ TInv w w2.heap.size (w2.heap.size + 1) k 0 wr ∧ Blk wr w.heap.size 54 #[.int .i8 u0, .int .i8 u1, .int .i8 u2])
    case atStart =>
      refine ⟨0, rfl, rfl, ⟨fun _ => 0, fun _ => 0, fun _ => none, fun _ => 0, fun _ => 0, fun _ => 0, fun _ => start 0, ⟨⟨⟨_, (Blk.new w2 56 _).alloc _, rfl, by omega⟩, by omega, by omega, by omega⟩, ⟨⟨_, Blk.at_ (by simp), rfl, by omega⟩, by omega, by omega⟩, ?_, by omega, by omega, by omega⟩, by intro k hk; omega⟩, (BB.alloc _).alloc _⟩
      exact ((b02.alloc b02.size _).alloc (by have := b02.size; simp; omega) _)
    case round =>
      obtain ⟨k, hk, rfl, ⟨b, g, A, n, c, base, s, T, hF⟩, B1⟩ := hrel
      have HK := Lib.hid hk
      clear hk
      by_cases hlt : k < 3
      · obtain ⟨bv, hbv⟩ : ∃ bv, wr.cell? ⟨w.heap.size, k, none⟩ = some (.int .i8 bv) := by
          obtain ⟨x0, x1, x2, -, -⟩ := B1.c3
          rcases k with _ | _ | _ | k
          · exact ⟨_, x0⟩
          · exact ⟨_, x1⟩
          · exact ⟨_, x2⟩
          · omega
        have hB1 := B1.lt
        by_cases hok : bv = 0 ∨ bv = 1
        · go_upto_region 17 with (first
            | (go_at_call 25; refine (rNew_ok _ bv hok).mono ?_; rintro r3 w3 ⟨g0, rfl, S3, hg1, hg2, b3⟩)
            | (go_at_call 19; refine (New_ok _ bv hok).mono ?_; rintro r1 w1 ⟨rfl, S1, b1⟩; have hbv1 : w1.cell? ⟨w.heap.size, k, none⟩ = some (.int .i8 bv) := (b1.cell (p := ⟨w.heap.size, k, none⟩) hB1).trans hbv))
          have hs1 := b1.size
          have hs3 := b3.size
          have S3' := S3
          have b13 := b1.trans (b3.mono hs1)
          have hst1 := StackIs.lt S1
          have bW := b13.alloc (by omega) (.cells #[.int .i8 bv, .slice (some ⟨g0, 0, none⟩) 1 1, .int .i64 0, .int .i64 0, .int .i64 0] 59)
          have X := Blk.new w3 59 #[.int .i8 bv, .slice (some ⟨g0, 0, none⟩) 1 1, .int .i64 0, .int .i64 0, .int .i64 0]
          have S4 : StackIs (w3.alloc (.cells #[.int .i8 bv, .slice (some ⟨g0, 0, none⟩) 1 1, .int .i64 0, .int .i64 0, .int .i64 0] 59)) (wr.heap.size + 1) wr.heap.size (start bv) := IsStack.below S1 (b3.alloc hs3 _)
          have R4 : RefIs (w3.alloc (.cells #[.int .i8 bv, .slice (some ⟨g0, 0, none⟩) 1 1, .int .i64 0, .int .i64 0, .int .i64 0] 59)) bv (some ⟨g0, 0, none⟩) 1 1 (start bv) := ⟨rfl, (S3.alloc _).more (by simp), Nat.le_refl _⟩
          have TN := TInv.next T hF hlt bW S4 (by omega) (Nat.le_refl _) (by omega) R4 (by omega) (by omega) (by omega) hok
          have T3 := T.below bW
          obtain ⟨v0, v1, v2, v3, v4, v5, hv0, hv1, hv2, hv3, hv4, hv5⟩ := T3.any5 hlt
          have hpf := T3.st.frozen
          have hrf := T3.rf.frozen
          have hpl := T3.st.lt
          have hrl := T3.rf.lt
          have BBn := B1.below bW hB1
          generalize hW3 : w3.alloc (.cells #[.int .i8 bv, .slice (some ⟨g0, 0, none⟩) 1 1, .int .i64 0, .int .i64 0, .int .i64 0] 59) = W3 at *
          have HX := Lib.hid hW3
          obtain ⟨z0, z1, z2, z3, z4, -, zl⟩ := X.c5
          have hUp := T.und
          have hq1 : w3.heap.size ≠ w2.heap.size := by have := hUp.1; omega
          have hq2 : w3.heap.size ≠ w2.heap.size + 1 := by have := hUp.2.1; omega
          have hq3 : w.heap.size ≠ w2.heap.size := by omega
          have hq4 : w.heap.size ≠ w2.heap.size + 1 := by omega
          clear hW3 T3 T S1 S3 S4 R4 b1 b3 b13 bW S3'
          go_wp2
          go_roundg (3 - (k + 1))
          case rel => exact ⟨k + 1, by have := HK.out; omega, by go_num, TN, by
            refine BBn.frm (F := fun j => j = w2.heap.size ∨ j = w2.heap.size + 1) ?_ (by omega)
            exact ((Frm.refl (fun j => j = w2.heap.size ∨ j = w2.heap.size + 1) W3).set (j := k) (.inl rfl) _).trans (put5 _ (w2.heap.size + 1) (k * 5) _ _ _ _ _) (fun _ _ e => .inr e)⟩
          case measure => have := HK.out; omega
        · have hn0 : bv ≠ 0 := fun e => hok (.inl e)
          have hn1 : bv ≠ 1 := fun e => hok (.inr e)
          clear hok
          go_upto_region 17 with (first
            | (have t := S1; go_at_call 25; refine (rNew_ok _ 0 (.inl rfl)).mono ?_; rintro r3 w3 ⟨g0, rfl, S3, hg1, hg2, b3⟩; obtain ⟨y0, y1, y2, y3, y4, yf, yl⟩ := (X1.below b3 X1.lt).c5)
            | (have t := b1; go_at_call 19; refine (New_ok _ 0 (.inl rfl)).mono ?_; rintro r2 w4 ⟨rfl, S1, b2⟩; have X1 := (Blk.new w1 59 #[.int .i8 0, .slice none 0 0, .int .i64 0, .int .i64 0, .int .i64 0]).below b2 (by simp))
            | (go_at_call 25; refine (rNew_no _ bv hn0 hn1).mono ?_; rintro r3 w1 ⟨rfl, b1⟩)
            | (go_at_call 19; refine (New_no _ bv hn0 hn1).mono ?_; rintro r1 w5 ⟨rfl, e⟩; subst w5))
          have hs1 := b1.size
          have hs2 := b2.size
          have hs3 := b3.size
          simp only [World.size_alloc] at hs2
          have hst1 := StackIs.lt S1
          simp only [World.size_alloc] at S1 hst1
          have S1 : StackIs w4 (w1.heap.size + 1 + 1) (w1.heap.size + 1) (start 0) := S1
          have b12 := (b1.alloc hs1 (.cells #[.int .i8 0, .slice none 0 0, .int .i64 0, .int .i64 0, .int .i64 0] 59)).trans (b2.mono (by simp; omega))
          have b13 := b12.trans (b3.mono (by omega))
          have FQ := put5 w3 w1.heap.size 0 (.int .i8 0) (.slice (some ⟨g0, 0, none⟩) 1 1) (.int .i64 0) (.int .i64 0) (.int .i64 0)
          have XQ := (((((X1.below b3 X1.lt).set_ 0 (.int .i8 0)).set_ 1 (.slice (some ⟨g0, 0, none⟩) 1 1)).set_ 2 (.int .i64 0)).set_ 3 (.int .i64 0)).set_ 4 (.int .i64 0)
          have R3 : RefIs w3 0 (some ⟨g0, 0, none⟩) 1 1 (start 0) := ⟨rfl, S3, Nat.le_refl _⟩
          have S4 := IsStack.frm (IsStack.below S1 b3) FQ (by omega) (by omega)
          have R4 := RefIs.frm_ R3 FQ (fun b off e => by cases e; omega)
          have bW := b13.trans (FQ.below (B := wr.heap.size) (by omega) (by omega))
          simp only [Nat.zero_add] at FQ XQ S4 R4 bW
          have TN := TInv.next T hF hlt bW S4 (by omega) (by omega) (by omega) R4 (by omega) (by omega) (by omega) (.inl rfl)
          have T3 := T.below bW
          obtain ⟨v0, v1, v2, v3, v4, v5, hv0, hv1, hv2, hv3, hv4, hv5⟩ := T3.any5 hlt
          have hpf := T3.st.frozen
          have hrf := T3.rf.frozen
          have hpl := T3.st.lt
          have hrl := T3.rf.lt
          have BBn := B1.below bW hB1
          generalize hW3 : (((((w3.setCell ⟨w1.heap.size, 0, none⟩ (.int .i8 0)).setCell ⟨w1.heap.size, 1, none⟩ (.slice (some ⟨g0, 0, none⟩) 1 1)).setCell ⟨w1.heap.size, 2, none⟩ (.int .i64 0)).setCell ⟨w1.heap.size, 3, none⟩ (.int .i64 0)).setCell ⟨w1.heap.size, 4, none⟩ (.int .i64 0)) = W3 at *
          clear y0 y1 y2 y3 y4 yf
          obtain ⟨z0, z1, z2, z3, z4, -, zl⟩ := XQ.c5
          have hUp := T.und
          have hq1 : w1.heap.size ≠ w2.heap.size := by have := hUp.1; omega
          have hq2 : w1.heap.size ≠ w2.heap.size + 1 := by have := hUp.2.1; omega
          have hq3 : w.heap.size ≠ w2.heap.size := by omega
          have hq4 : w.heap.size ≠ w2.heap.size + 1 := by omega
          clear hW3 T3 T S1 S3 S4 R4 R3 b1 b2 b3 b12 b13 bW FQ XQ X1
          go_wp2
          go_roundg (3 - (k + 1))
          case rel => exact ⟨k + 1, by have := HK.out; omega, by go_num, TN, by
            refine BBn.frm (F := fun j => j = w2.heap.size ∨ j = w2.heap.size + 1) ?_ (by omega)
            exact ((Frm.refl (fun j => j = w2.heap.size ∨ j = w2.heap.size + 1) W3).set (j := k) (.inl rfl) _).trans (put5 _ (w2.heap.size + 1) (k * 5) _ _ _ _ _) (fun _ _ e => .inr e)⟩
          case measure => have := HK.out; omega
      · have hk3 : k = 3 := by have := HK.out; omega
        subst hk3
        clear HK BB b02 hs2
        go_wp2
        go_loopg [12] len (fun gk iv wr => ∃ i : Nat, i + gk = len ∧ iv = .int .i64 i ∧ TInv w w2.heap.size (w2.heap.size + 1) 3 i wr)
        case atStart => exact ⟨0, by omega, rfl, b, g, A, n, c, base, s, T, hF⟩
        case round =>
          clear T hF B1 b g A n c base s
          obtain ⟨i, hi, rfl, b, g, A, n, c, base, s, T, hF⟩ := hrel
          have HI := Lib.hid hi
          clear hi
          by_cases hlt : i < len
          · obtain ⟨ab, off, rfl, hab, _, hcell⟩ := hs.below T.bl (Nat.le_refl _) (by omega)
            obtain ⟨x, y, cp, cl, au, c0, c1, c2, c3, c4⟩ := hcell i hlt
            clear hcell
            obtain ⟨qx, hqx, hqx4⟩ : ∃ q : Nat, bits .and .i64 x 3 = (q : Int) ∧ q < 4 := ⟨(x % 4).toNat, by rw [and3]; omega, by omega⟩
            obtain ⟨qy, hqy, hqy4⟩ : ∃ q : Nat, bits .and .i64 y 3 = (q : Int) ∧ q < 4 := ⟨(y % 4).toNat, by rw [and3]; omega, by omega⟩
            obtain ⟨ka, hka, hka3⟩ : ∃ k : Nat, (qx : Int).tmod 3 = (k : Int) ∧ k < 3 := ⟨qx % 3, by rw [Int.tmod_eq_emod_of_nonneg (by omega)]; omega, by omega⟩
            obtain ⟨kb, hkb, hkb3⟩ : ∃ k : Nat, (qy : Int).tmod 3 = (k : Int) ∧ k < 3 := ⟨qy % 3, by rw [Int.tmod_eq_emod_of_nonneg (by omega)]; omega, by omega⟩
            go_upto_if 104 with (go_quiet (fail))
            go_cut [104] from 80 to 192 (fun _ wx => TInv w w2.heap.size (w2.heap.size + 1) 3 i wx)
            case first =>
              rcases cp with _ | _
              · go_wp2
                go_meet
                exact ⟨b, g, A, n, c, base, s, T.drewN _, hF⟩
              · have hne : 0 < (s ka).l.length := by obtain ⟨e, l, hl⟩ := (hF ka hka3).1.ents.ne; rw [hl]; simp
                have hpa := T.st.cell hka3
                have hpl := T.st.lt
                have T0 := T.drewN nq
                clear c0 c1 c2 c3 c4 T
                go_upto_region 25 with (go_at_call 26; refine (Copy_ok (T0.st.st ka hka3) hne).mono ?_; rintro r w3 ⟨b', g', rfl, hb', hg', S3, b3⟩; have T1 := T0.below b3; obtain ⟨-, -, -, -, -, v5, -, -, -, -, -, hv5⟩ := T1.any5 hkb3; have hpf := T1.st.frozen; have hpl1 := T1.st.lt)
                have T2 := T1.layP (P' := 3) (a := kb) hkb3 (fun k hk => .inr hk) T0.und S3 hb' hg' S3.ne
                clear hpa hpl hpf hpl1 hv5 T1
                generalize hW4 : w3.setCell ⟨w2.heap.size, kb, none⟩ (.pointer (some ⟨b', 0, none⟩)) = w4 at *
                obtain ⟨y0, y1, y2, y3, y4⟩ := T2.rf.cell hka3
                obtain ⟨v0, v1, v2, v3, v4, -, hv0, hv1, hv2, hv3, hv4, -⟩ := T2.any5 hkb3
                have hrf := T2.rf.frozen
                have hrl := T2.rf.lt
                have T3 := T2.layR (R' := 3) (a := kb) hkb3 (fun k hk => .inr hk) (T2.rf.rd ka hka3) (T2.old hka3)
                have F3 := put5 w4 (w2.heap.size + 1) (kb * 5) (.int .i8 (base ka)) (.slice (A ka) (n ka) (c ka)) (.int .i64 (s ka).i) (.int .i64 (s ka).m) (.int .i64 (s ka).v)
                have hpb := T3.st.cell hkb3
                have hpl := T3.st.lt
                rw [upd_self] at hpb
                have hF3 := hF.lay (K' := 3) (a := kb) (Int.le_refl _) (fun k hk => .inr hk) (hF ka hka3).1 (hF ka hka3).2.1 (hF ka hka3).2.2
                go_upto_region 26 with (fail)
                clear y0 y1 y2 y3 y4 v0 v1 v2 v3 v4 hv0 hv1 hv2 hv3 hv4 hrf hrl
                generalize hW5 : (((((w4.setCell ⟨w2.heap.size + 1, kb * 5, none⟩ (.int .i8 (base ka))).setCell ⟨w2.heap.size + 1, kb * 5 + 1, none⟩ (.slice (A ka) (n ka) (c ka))).setCell ⟨w2.heap.size + 1, kb * 5 + 2, none⟩ (.int .i64 (s ka).i)).setCell ⟨w2.heap.size + 1, kb * 5 + 3, none⟩ (.int .i64 (s ka).m)).setCell ⟨w2.heap.size + 1, kb * 5 + 4, none⟩ (.int .i64 (s ka).v)) = w5 at *
                have HT := Lib.hid T3
                clear T3 hW5 F3
                go_wp2
                go_meet
                exact ⟨_, _, _, _, _, _, _, HT.out, hF3⟩
            case rest =>
              clear T hF b g A n c base s c0 c1 c2 c3 c4
              obtain ⟨b, g, A, n, c, base, s, T, hF⟩ := hcut
              obtain ⟨ab', off', e, hab, _, hcell⟩ := hs.below T.bl (Nat.le_refl _) (by omega)
              cases e
              obtain ⟨x', y', cp', cl, au, -, -, -, c3, c4⟩ := hcell i hlt
              clear hcell x' y' cp'
              have hpa := T.st.cell hka3
              have hpl := T.st.lt
              obtain ⟨hwf, hsi, hsm⟩ := hF ka hka3
              have hab2 : ab < w2.heap.size := by have := T.pr; omega
              go_upto_region 28 with (fail)
              have hi2 : (s ka).i ≤ 1152921504606846976 := by have := HI.out; omega
              have hm2 : (s ka).m ≤ 1152921504606846976 := by have := HI.out; omega
              have hS1 := Step_any (w := wc.drew) cl au (T.drew.st.st ka hka3) hwf hi2 hm2
              have hR1 : ∀ W, RefIs W (base ka) (A ka) (n ka) (c ka) (s ka) → Calls Try.prog 27 #[refOf (base ka) (A ka) (n ka) (c ka) (s ka), .int .u8 cl, .int .i8 au] W (RStepOut W (A ka) (base ka) (stepS (base ka) (s ka) cl au)) := fun W h => RStep_any cl au h hwf hi2 hm2
              have hWF := hwf.step cl au
              generalize stepS (base ka) (s ka) cl au = o at hS1 hR1 hWF
              have HR1 := Lib.hid hR1
              have HO := Lib.hid hWF
              clear hR1 hWF hwf
              refine wp_region_mid 13 (by kernel_rfl) (by kernel_rfl) rfl ?_
              simp only [List.take_succ_cons, List.take_zero]
              repeat (refine still_plain rfl rfl ?_; intro K hK; go_wp2)
              refine wpStill_nil ?_
              refine mid_op rfl rfl ?_
              intro K hK
              go_wp2_with (go_at_call 20; refine hS1.mono ?_; rintro r1 w4 ⟨rfl, g', hg', S', F1⟩)
              repeat (refine still_plain rfl rfl ?_; intro K hK; go_wp2)
              refine wpStill_nil ?_
              have T1 := T.drew.step hka3 F1 S' hg'
              have hcs : w4.cell? ⟨ab, off + i * 5 + 3, none⟩ = some (.int .u8 cl) ∧ w4.cell? ⟨ab, off + i * 5 + 4, none⟩ = some (.int .i8 au) := by
                have hlo := T.low ka hka3
                have hbl := T.bl.size
                have key : ∀ o, w4.cell? ⟨ab, o, none⟩ = wc.cell? ⟨ab, o, none⟩ := fun o => World.cell?_of_block (F1.block ab (by show ab < wc.heap.size; omega) (fun e => by rcases e with e | e <;> omega))
                rw [key, key]
                exact ⟨c3, c4⟩
              clear hpa hpl T F1 S' hg' hS1 c3 c4
              obtain ⟨c3, c4⟩ := hcs
              obtain ⟨z0, z1, z2, z3, z4⟩ := T1.rf.cell hka3
              have hrl := T1.rf.lt
              have hbl1 := T1.bl.size
              have hab4 : ab < w4.heap.size := by omega
              obtain ⟨ol, olv, ocl, ok⟩ := o
              obtain ⟨ol, oi, om, ov⟩ := ol
              have r1 : Calls Try.prog 27 #[.agg #[.int .i8 (base ka), .slice (A ka) (n ka) (c ka), .int .i64 (s ka).i, .int .i64 (s ka).m, .int .i64 (s ka).v], .int .u8 cl, .int .i8 au] w4.drew fun r w3 => ∃ A' n' c', r = .returned (.tuple #[.agg #[.int .i8 (base ka), .slice A' n' c', .int .i64 oi, .int .i64 om, .int .i64 ov], .int .i8 olv, .int .u8 ocl, .bool ok]) ∧
                  RefIs w3 (base ka) A' n' c' ⟨ol, oi, om, ov⟩ ∧ Below w4.heap.size w4 w3 ∧ (A' = A ka ∨ ∃ g, A' = some ⟨g, 0, none⟩ ∧ w4.heap.size ≤ g) := by
                refine (HR1.out w4.drew (T1.drew.rf.rd ka hka3)).mono ?_
                rintro r w3 ⟨A', n', c', rfl, hR3, b3, hAA⟩
                exact ⟨A', n', c', rfl, hR3, ⟨b3.os, b3.tape, b3.output, b3.size, b3.block⟩, hAA⟩
              have r2 : Calls Try.prog 27 #[.agg #[.int .i8 (base ka), .slice (A ka) (n ka) (c ka), .int .i64 (s ka).i, .int .i64 (s ka).m, .int .i64 (s ka).v], .int .u8 cl, .int .i8 au] (w4.drew.alloc (.cells #[.int .i8 0, .slice none 0 0, .int .i64 0, .int .i64 0, .int .i64 0] 59)) fun r w3 => ∃ A' n' c', r = .returned (.tuple #[.agg #[.int .i8 (base ka), .slice A' n' c', .int .i64 oi, .int .i64 om, .int .i64 ov], .int .i8 olv, .int .u8 ocl, .bool ok]) ∧
                  RefIs w3 (base ka) A' n' c' ⟨ol, oi, om, ov⟩ ∧ Below w4.heap.size w4 w3 ∧ (A' = A ka ∨ ∃ g, A' = some ⟨g, 0, none⟩ ∧ w4.heap.size ≤ g) ∧ Blk w3 w4.heap.size 59 #[.int .i8 0, .slice none 0 0, .int .i64 0, .int .i64 0, .int .i64 0] ∧ ∀ y off, A' = some ⟨y, off, none⟩ → ¬ y = w4.heap.size := by
                refine (HR1.out (w4.drew.alloc (.cells #[.int .i8 0, .slice none 0 0, .int .i64 0, .int .i64 0, .int .i64 0] 59)) ((T1.drew.alloc _).rf.rd ka hka3)).mono ?_
                rintro r w3 ⟨A', n', c', rfl, hR3, b3, hAA⟩
                have hz3 := b3.size
                simp only [World.size_alloc] at hz3
                exact ⟨A', n', c', rfl, hR3, ⟨b3.os, b3.tape, b3.output, by show w4.heap.size ≤ _; have : w4.drew.heap.size = w4.heap.size := rfl; omega, fun k hk => (b3.block k (by simp; show k < w4.heap.size + 1; omega)).trans (Below.heap_alloc w4.drew _ k hk)⟩,
                  hAA.imp id (fun ⟨g, e, h⟩ => ⟨g, e, by simp only [World.size_alloc] at h; have : w4.drew.heap.size = w4.heap.size := rfl; omega⟩), (Blk.new w4.drew 59 _).below b3 (by simp), fun y off e => by
                    have hdr : w4.drew.heap.size = w4.heap.size := rfl
                    rcases hAA with h | ⟨g, h, hg⟩
                    · have := T1.und.2.2.2 ka hka3 y off (by rw [← h, e]); omega
                    · rw [h] at e; cases e; simp only [World.size_alloc] at hg; have hlt4 : w4.heap.size < y := by first | omega | (rw [hdr] at hg; omega)
                      omega⟩
              clear HR1
              go_upto_region 29 with (fail)
              go_cut [18, 19, 20, 21] from 80 to 192 (fun p a b d wx => ∃ q A' n' c', p = .pointer (some ⟨q, 0, none⟩) ∧ a = .int .i8 olv ∧ b = .int .u8 ocl ∧ d = .bool ok ∧ w4.heap.size ≤ q ∧
                Blk wx q 59 #[.int .i8 (base ka), .slice A' n' c', .int .i64 oi, .int .i64 om, .int .i64 ov] ∧ RefIs wx (base ka) A' n' c' ⟨ol, oi, om, ov⟩ ∧ Below w4.heap.size w4 wx ∧ (A' = A ka ∨ ∃ g, A' = some ⟨g, 0, none⟩ ∧ w4.heap.size ≤ g))
              case first =>
                have hka0 : (0 : Int) ≤ (ka : Int) := by omega
                have hkaI : (ka : Int) < 3 := by omega
                have hkaI2 : (ka : Int) ≤ 2 := by omega
                have hq1 : w4.heap.size ≠ w2.heap.size + 1 := by omega
                have hq2 : w4.heap.size ≠ ab := by omega
                have key : ∀ W, Below w4.heap.size w4 W → (W.cell? ⟨w2.heap.size + 1, ka * 5, none⟩ = some (.int .i8 (base ka)) ∧ W.cell? ⟨w2.heap.size + 1, ka * 5 + 1, none⟩ = some (.slice (A ka) (n ka) (c ka)) ∧ W.cell? ⟨w2.heap.size + 1, ka * 5 + 2, none⟩ = some (.int .i64 (s ka).i) ∧
                    W.cell? ⟨w2.heap.size + 1, ka * 5 + 3, none⟩ = some (.int .i64 (s ka).m) ∧ W.cell? ⟨w2.heap.size + 1, ka * 5 + 4, none⟩ = some (.int .i64 (s ka).v) ∧ W.cell? ⟨ab, off + i * 5 + 3, none⟩ = some (.int .u8 cl) ∧ W.cell? ⟨ab, off + i * 5 + 4, none⟩ = some (.int .i8 au)) := by
                  intro W hb
                  obtain ⟨k1, -, -⟩ := bcell hb
                  rw [k1 _ _ hrl, k1 _ _ hrl, k1 _ _ hrl, k1 _ _ hrl, k1 _ _ hrl, k1 _ _ hab4, k1 _ _ hab4]
                  exact ⟨z0, z1, z2, z3, z4, c3, c4⟩
                go_region_held3 (fun W => W.cell? ⟨w2.heap.size + 1, ka * 5, none⟩ = some (.int .i8 (base ka)) ∧ W.cell? ⟨w2.heap.size + 1, ka * 5 + 1, none⟩ = some (.slice (A ka) (n ka) (c ka)) ∧ W.cell? ⟨w2.heap.size + 1, ka * 5 + 2, none⟩ = some (.int .i64 (s ka).i) ∧
                    W.cell? ⟨w2.heap.size + 1, ka * 5 + 3, none⟩ = some (.int .i64 (s ka).m) ∧ W.cell? ⟨w2.heap.size + 1, ka * 5 + 4, none⟩ = some (.int .i64 (s ka).v) ∧ W.cell? ⟨ab, off + i * 5 + 3, none⟩ = some (.int .u8 cl) ∧ W.cell? ⟨ab, off + i * 5 + 4, none⟩ = some (.int .i8 au)) (go_keep)
                  (first
                    | (go_at_call 27; refine r1.mono ?_; rintro r3 w3 ⟨A', n', c', rfl, hR3, b4, hAA⟩; obtain ⟨p0, p1, p2, p3, p4, p5, p6⟩ := key _ b4)
                    | (go_at_call 27; refine r2.mono ?_; rintro r3 w3 ⟨A', n', c', rfl, hR3, bA, hAA, hz, hyn⟩; obtain ⟨p0, p1, p2, p3, p4, p5, p6⟩ := key _ bA; obtain ⟨_, _, _, _, _, zf, zl⟩ := hz.c5))
                all_goals (go_wp2; go_meet)
                all_goals first
                  | (have hz2 := hz; exact ⟨_, A', n', c', rfl, rfl, rfl, rfl, Nat.le_refl _, blk_put5 _ _ _ _ _ hz2, RefIs.frm_ hR3 (frm_put5 _ _ _ _ _ _ _) hyn, (bA.trans ((frm_put5 _ _ _ _ _ _ _).below bA.size (fun k hk => by omega))), hAA⟩)
                  | (have t := b4; exact ⟨_, A', n', c', rfl, rfl, rfl, rfl, b4.size, Blk.new _ _ _, RefIs.below_ hR3 ((Below.refl _ _).alloc (Nat.le_refl _) _), Below.alloc b4 b4.size _, hAA⟩)
              case rest =>
                obtain ⟨q, A', n', c', rfl, rfl, rfl, rfl, hq, hQ, hRq, b4, hAA⟩ := hcut
                have hU := T1.und
                have T2 := T1.below b4
                have hAo : ∃ x off, A' = some ⟨x, off, none⟩ ∧ x < wc.heap.size ∧ x ≠ w2.heap.size ∧ x ≠ w2.heap.size + 1 ∧ ∀ j, j < 3 → x ≠ b j ∧ x ≠ upd g ka g' j := by
                  rcases hAA with h | ⟨y, h, hy⟩
                  · rw [h]; exact T2.old hka3
                  · obtain ⟨x, off, e, hx⟩ := RefIs.lt hRq (by obtain ⟨e, l', h⟩ := HO.out.1.ents.ne; rw [h]; simp)
                    rw [h] at e
                    cases e
                    exact ⟨y, 0, h, hx, by have := hU.1; omega, by have := hU.2.1; omega, fun j hj => by have := hU.2.2.1 j hj; omega⟩
                have TN : TInv w w2.heap.size (w2.heap.size + 1) 3 (i + 1) (((((wc.setCell ⟨w2.heap.size + 1, ka * 5, none⟩ (.int .i8 (base ka))).setCell ⟨w2.heap.size + 1, ka * 5 + 1, none⟩ (.slice A' n' c')).setCell ⟨w2.heap.size + 1, ka * 5 + 2, none⟩ (.int .i64 oi)).setCell ⟨w2.heap.size + 1, ka * 5 + 3, none⟩ (.int .i64 om)).setCell ⟨w2.heap.size + 1, ka * 5 + 4, none⟩ (.int .i64 ov)) :=
                  ⟨_, _, _, _, _, _, _, T2.layR (R' := 3) (a := ka) hka3 (fun k hk => .inr hk) hRq hAo, hF.lay (by omega) (fun k hk => .inr hk) HO.out.1 (by have := HO.out.2.1; have := (hF ka hka3).2.1; omega) (by have := HO.out.2.2; have := (hF ka hka3).2.2; omega)⟩
                obtain ⟨y0, y1, y2, y3, y4, yf, yl⟩ := hQ.c5
                obtain ⟨v0, v1, v2, v3, v4, -, hv0, hv1, hv2, hv3, hv4, -⟩ := T2.any5 hka3
                have hrf := T2.rf.frozen
                have hrl2 := T2.rf.lt
                have hqr : q ≠ w2.heap.size + 1 := by have := hU.2.1; omega
                clear T1 T2 hRq hAo hQ z0 z1 z2 z3 z4 c3 c4 hU r1 r2 b4
                go_upto_region 31 with (fail)
                generalize hW5 : (((((wc.setCell ⟨w2.heap.size + 1, ka * 5, none⟩ (.int .i8 (base ka))).setCell ⟨w2.heap.size + 1, ka * 5 + 1, none⟩ (.slice A' n' c')).setCell ⟨w2.heap.size + 1, ka * 5 + 2, none⟩ (.int .i64 oi)).setCell ⟨w2.heap.size + 1, ka * 5 + 3, none⟩ (.int .i64 om)).setCell ⟨w2.heap.size + 1, ka * 5 + 4, none⟩ (.int .i64 ov)) = w5 at *
                clear hW5 y0 y1 y2 y3 y4 yf yl v0 v1 v2 v3 v4 hv0 hv1 hv2 hv3 hv4 hrf hrl2 hqr hAA HO hF hi2 hm2 hrl hbl1 hab4
                obtain ⟨b, g, A, n, c, base, s, T, hF⟩ := TN
                have T' := T.drew
                have hka0 : (0 : Int) ≤ (ka : Int) := by omega
                have hkaI : (ka : Int) < 3 := by omega
                have hkaI2 : (ka : Int) ≤ 2 := by omega
                have hkb0 : (0 : Int) ≤ (kb : Int) := by omega
                have hkbI : (kb : Int) < 3 := by omega
                have hkbI2 : (kb : Int) ≤ 2 := by omega
                have hcells : ∀ W, Tri w 3 3 w2.heap.size (w2.heap.size + 1) b g A n c base s s W → (W.cell? ⟨w2.heap.size, ka, none⟩ = some (.pointer (some ⟨b ka, 0, none⟩)) ∧ W.cell? ⟨w2.heap.size + 1, ka * 5, none⟩ = some (.int .i8 (base ka)) ∧ W.cell? ⟨w2.heap.size + 1, ka * 5 + 1, none⟩ = some (.slice (A ka) (n ka) (c ka)) ∧
                    W.cell? ⟨w2.heap.size + 1, ka * 5 + 2, none⟩ = some (.int .i64 (s ka).i) ∧ W.cell? ⟨w2.heap.size + 1, ka * 5 + 3, none⟩ = some (.int .i64 (s ka).m) ∧ W.cell? ⟨w2.heap.size + 1, ka * 5 + 4, none⟩ = some (.int .i64 (s ka).v)) ∧
                    (W.cell? ⟨w2.heap.size, kb, none⟩ = some (.pointer (some ⟨b kb, 0, none⟩)) ∧ W.cell? ⟨w2.heap.size + 1, kb * 5, none⟩ = some (.int .i8 (base kb)) ∧ W.cell? ⟨w2.heap.size + 1, kb * 5 + 1, none⟩ = some (.slice (A kb) (n kb) (c kb)) ∧
                    W.cell? ⟨w2.heap.size + 1, kb * 5 + 2, none⟩ = some (.int .i64 (s kb).i) ∧ W.cell? ⟨w2.heap.size + 1, kb * 5 + 3, none⟩ = some (.int .i64 (s kb).m) ∧ W.cell? ⟨w2.heap.size + 1, kb * 5 + 4, none⟩ = some (.int .i64 (s kb).v)) :=
                  fun W h => ⟨⟨h.st.cell hka3, h.rf.cell hka3⟩, h.st.cell hkb3, h.rf.cell hkb3⟩
                have HC := Lib.hid hcells
                clear hcells
                obtain ⟨⟨x0, x1, x2, x3, x4, x5⟩, y0, y1, y2, y3, y4, y5⟩ := HC.out _ T'
                go_region_held3 (fun W => W.cell? ⟨w2.heap.size, ka, none⟩ = some (.pointer (some ⟨b ka, 0, none⟩)) ∧ W.cell? ⟨w2.heap.size + 1, ka * 5, none⟩ = some (.int .i8 (base ka)) ∧ W.cell? ⟨w2.heap.size + 1, ka * 5 + 1, none⟩ = some (.slice (A ka) (n ka) (c ka)) ∧
                    W.cell? ⟨w2.heap.size + 1, ka * 5 + 2, none⟩ = some (.int .i64 (s ka).i) ∧ W.cell? ⟨w2.heap.size + 1, ka * 5 + 3, none⟩ = some (.int .i64 (s ka).m) ∧ W.cell? ⟨w2.heap.size + 1, ka * 5 + 4, none⟩ = some (.int .i64 (s ka).v) ∧
                    W.cell? ⟨w2.heap.size, kb, none⟩ = some (.pointer (some ⟨b kb, 0, none⟩)) ∧ W.cell? ⟨w2.heap.size + 1, kb * 5, none⟩ = some (.int .i8 (base kb)) ∧ W.cell? ⟨w2.heap.size + 1, kb * 5 + 1, none⟩ = some (.slice (A kb) (n kb) (c kb)) ∧
                    W.cell? ⟨w2.heap.size + 1, kb * 5 + 2, none⟩ = some (.int .i64 (s kb).i) ∧ W.cell? ⟨w2.heap.size + 1, kb * 5 + 3, none⟩ = some (.int .i64 (s kb).m) ∧ W.cell? ⟨w2.heap.size + 1, kb * 5 + 4, none⟩ = some (.int .i64 (s kb).v) ∧
                    Tri w 3 3 w2.heap.size (w2.heap.size + 1) b g A n c base s s W) (refine ⟨?_, ?_, ?_, ?_, ?_, ?_, ?_, ?_, ?_, ?_, ?_, ?_, ?_⟩ <;> assumption)
                  (first
                    | (have t := TA; go_at_call 28; refine (Tri.alike (w0 := w) (p := w2.heap.size) (r := w2.heap.size + 1) (g := g) (k := kb) TA hF hkb3).mono ?_; rintro r6 w6 ⟨rfl, b6⟩; have TB := TA.below b6; obtain ⟨⟨_, _, _, _, _, _⟩, _, _, _, _, _, _⟩ := HC.out _ TB)
                    | (go_at_call 28; refine (Tri.alike (w0 := w) (p := w2.heap.size) (r := w2.heap.size + 1) (g := g) (k := ka) T' hF hka3).mono ?_; rintro r5 w5' ⟨rfl, b5⟩; have TA := T'.below b5; obtain ⟨⟨_, _, _, _, _, _⟩, _, _, _, _, _, _⟩ := HC.out _ TA))
                go_wp2
                go_roundg (len - (i + 1))
                case rel => exact ⟨i + 1, by have := HI.out; omega, by go_num, b, g, A, n, c, base, s, TB, hF⟩
                case measure => have := HI.out; omega
          · have hi : i = len := by have := HI.out; omega
            subst hi
            clear HI
            have hcells : ∀ W, Tri w 3 3 w2.heap.size (w2.heap.size + 1) b g A n c base s s W → (W.cell? ⟨w2.heap.size, 0, none⟩ = some (.pointer (some ⟨b 0, 0, none⟩)) ∧ W.cell? ⟨w2.heap.size + 1, 0, none⟩ = some (.int .i8 (base 0)) ∧ W.cell? ⟨w2.heap.size + 1, 1, none⟩ = some (.slice (A 0) (n 0) (c 0)) ∧
                W.cell? ⟨w2.heap.size + 1, 2, none⟩ = some (.int .i64 (s 0).i) ∧ W.cell? ⟨w2.heap.size + 1, 3, none⟩ = some (.int .i64 (s 0).m) ∧ W.cell? ⟨w2.heap.size + 1, 4, none⟩ = some (.int .i64 (s 0).v)) ∧
                (W.cell? ⟨w2.heap.size, 1, none⟩ = some (.pointer (some ⟨b 1, 0, none⟩)) ∧ W.cell? ⟨w2.heap.size + 1, 5, none⟩ = some (.int .i8 (base 1)) ∧ W.cell? ⟨w2.heap.size + 1, 6, none⟩ = some (.slice (A 1) (n 1) (c 1)) ∧
                W.cell? ⟨w2.heap.size + 1, 7, none⟩ = some (.int .i64 (s 1).i) ∧ W.cell? ⟨w2.heap.size + 1, 8, none⟩ = some (.int .i64 (s 1).m) ∧ W.cell? ⟨w2.heap.size + 1, 9, none⟩ = some (.int .i64 (s 1).v)) ∧
                (W.cell? ⟨w2.heap.size, 2, none⟩ = some (.pointer (some ⟨b 2, 0, none⟩)) ∧ W.cell? ⟨w2.heap.size + 1, 10, none⟩ = some (.int .i8 (base 2)) ∧ W.cell? ⟨w2.heap.size + 1, 11, none⟩ = some (.slice (A 2) (n 2) (c 2)) ∧
                W.cell? ⟨w2.heap.size + 1, 12, none⟩ = some (.int .i64 (s 2).i) ∧ W.cell? ⟨w2.heap.size + 1, 13, none⟩ = some (.int .i64 (s 2).m) ∧ W.cell? ⟨w2.heap.size + 1, 14, none⟩ = some (.int .i64 (s 2).v)) :=
              fun W h => ⟨⟨h.st.cell (k := 0) (by omega), by simpa using h.rf.cell (k := 0) (by omega)⟩, ⟨h.st.cell (k := 1) (by omega), by simpa using h.rf.cell (k := 1) (by omega)⟩, ⟨h.st.cell (k := 2) (by omega), by simpa using h.rf.cell (k := 2) (by omega)⟩⟩
            have HC := Lib.hid hcells
            clear hcells
            obtain ⟨⟨x0, x1, x2, x3, x4, x5⟩, -⟩ := HC.out _ T
            go_wp2_with (first
              | (have t := TB; go_at_call 28; refine (Tri.alike (w0 := w) (p := w2.heap.size) (r := w2.heap.size + 1) (g := g) (k := 2) TB hF (by omega)).mono ?_; rintro r7 w7 ⟨rfl, b7⟩; have TC := TB.below b7)
              | (have t := TA; go_at_call 28; refine (Tri.alike (w0 := w) (p := w2.heap.size) (r := w2.heap.size + 1) (g := g) (k := 1) TA hF (by omega)).mono ?_; rintro r6 w6 ⟨rfl, b6⟩; have TB := TA.below b6; obtain ⟨-, -, z0, z1, z2, z3, z4, z5⟩ := HC.out _ TB)
              | (go_at_call 28; refine (Tri.alike (w0 := w) (p := w2.heap.size) (r := w2.heap.size + 1) (g := g) (k := 0) T hF (by omega)).mono ?_; rintro r5 w5' ⟨rfl, b5⟩; have TA := T.below b5; obtain ⟨-, ⟨y0, y1, y2, y3, y4, y5⟩, -⟩ := HC.out _ TA))
            go_ret
            exact ⟨rfl, TC.bl⟩
end Go.Proofs.Ytfelcmppopibcaa
