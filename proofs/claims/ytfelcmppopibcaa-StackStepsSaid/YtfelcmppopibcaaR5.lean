/- The reference's stack: Step, isolates. -/
import Derived.Test.YtfelcmppopibcaaR3
import Derived.Test.YtfelcmppopibcaaR4
namespace Go.Proofs.Ytfelcmppopibcaa
open Go.RowKit

set_option maxRecDepth 100000 in
set_option maxHeartbeats 1000000 in
theorem rStep21_yes {w : World} {A : Option Addr} {e : Ent} {l : List Ent} {n c : Nat} {base i m v : Int} (auto : Int) (hn : n = l.length + 1) (h : Reads w w.heap.size 3 A n (entCells (e :: l)))
    (hl : l.length + 1 ≤ 125) (h0 : 0 ≤ e.lv) (h1 : e.lv ≤ 125) (hx : nextLv true e.lv ≤ 125) (hi : i = 0) (hm : m = 0) (hv : 0 ≤ v) (hv2 : v ≤ 1152921504606846976) :
    Calls Try.prog 27 #[refV base A n c i m v, .int .u8 21, .int .i8 auto] w (RefOut w A base (⟨nextLv true e.lv, 0, true⟩ :: e :: l) i m (v + 1) e.lv (plainCls 21 e.ov) true) := by
  subst hn
  obtain ⟨F0, P3, P6⟩ := rW_facts w base A (l.length + 1) c i m v
  have hA0 : ∀ b off, A = some ⟨b, off, none⟩ → b ≠ w.heap.size + 1 := fun b off hA => by obtain ⟨b', off', h1, h2, _⟩ := h.2 (by omega); rw [hA] at h1; injection h1 with h1; injection h1 with h1; omega
  have hx0 : 0 ≤ nextLv true e.lv := by unfold nextLv; split <;> omega
  have hI := Lib.hid hi
  have hM := Lib.hid hm
  clear hi hm
  generalize hnx : nextLv true e.lv = nx at hx hx0 ⊢
  have HX := Lib.hid hnx
  clear hnx
  go_enter Try.func27, Try.ntmps27
  go_wp2_with (first
    | (go_at_call 44; refine (rPlain_any _ ((h.alloc _).alloc _) (by omega)).mono ?_; rintro r w0 ⟨rfl, hb0⟩; have R3 := P3.below hb0 P3.lt; have R6 := P6.below hb0 P6.lt; have H0 := F0.trans (hb0.mono F0.size); obtain ⟨c0, c1, c2, c3, c4, c5, c6⟩ := R3.c5)
    | (go_at_call 41; refine (rNext_any true (h.below H0 (.inr (Nat.le_refl _))) (by omega) h0 h1).mono ?_; rintro r w1 ⟨rfl, hb1⟩; rw [HX.out]; clear c0 c1 c2 c3 c4 c5 c6; have Q3 := R3.below hb1 R3.lt; have Q6 := R6.below hb1 R6.lt; have H1 := H0.trans (hb1.mono H0.size); obtain ⟨c0, c1, c2, c3, c4, c5, c6⟩ := Q3.c5)
    | (go_at_call 42; refine (rRoom_yes _ hx hI.out hM.out).mono ?_; rintro r w2 ⟨rfl, hb2⟩; clear c0 c1 c2 c3 c4 c5 c6; have Q3' := Q3.below hb2 Q3.lt; have Q6' := Q6.below hb2 Q6.lt; have H2 := H1.trans (hb2.mono H1.size); obtain ⟨c0, c1, c2, c3, c4, c5, c6⟩ := Q3'.c5)
    | (go_at_call 43; refine (rWith_any (e := ⟨nx, 0, true⟩) (l := e :: l) rfl ((h.below H2 (.inr (Nat.le_refl _))).setCell (Nat.le_refl _) _) (by simp; omega)).mono ?_; rintro r w3 ⟨g, cap, rfl, hr3, hc3, hg3, hb3⟩; have Q6b := (Q6'.far (p := ⟨w.heap.size, 4, none⟩) (by simp) (.int .i64 (v + 1))).below hb3 (by have := Q6'.lt; simp; omega); have H3 := (H2.setCell (p := ⟨w.heap.size, 4, none⟩) (Nat.le_refl _) (.int .i64 (v + 1))).trans (hb3.mono (by have := H2.size; simp; omega)); obtain ⟨d0, d1, d2, d3, d4, d5, d6⟩ := Q6b.c5))
  obtain ⟨W, rfl, QW, hout⟩ := rfin (A0 := A) (base := base) (i := i) (m := m) (v := v + 1) (l := ⟨nx, 0, true⟩ :: e :: l) Q6b H3 hr3 (fun b off hA => by have h6 := Q6'.lt; injection hA with hA; injection hA with hA; simp at hg3; omega) hc3 (.inr ⟨g, rfl, by have hz2 := H2.size; simp at hg3; omega⟩)
  exact bodyPost_ret (results_row3 rfl _ _ _ _ _ _ rfl QW Try.underlying59 rfl (by kernel_rfl)) rfl (hout _ _ _)

set_option maxRecDepth 100000 in
set_option maxHeartbeats 1000000 in
theorem rStep21_no {w : World} {A : Option Addr} {e : Ent} {l : List Ent} {n c : Nat} {base i m v : Int} (auto : Int) (hn : n = l.length + 1) (h : Reads w w.heap.size 3 A n (entCells (e :: l))) (hc : n ≤ c)
    (hl : l.length + 1 ≤ 126) (h0 : 0 ≤ e.lv) (h1 : e.lv ≤ 125) (hx : 125 < nextLv true e.lv ∨ i ≠ 0 ∨ m ≠ 0) (hi0 : 0 ≤ i) (hi2 : i ≤ 1152921504606846976) :
    Calls Try.prog 27 #[refV base A n c i m v, .int .u8 21, .int .i8 auto] w (RefOut w A base (e :: l) (i + 1) m v e.lv (plainCls 21 e.ov) true) := by
  subst hn
  obtain ⟨F0, P3, P6⟩ := rW_facts w base A (l.length + 1) c i m v
  have hA0 : ∀ b off, A = some ⟨b, off, none⟩ → b ≠ w.heap.size + 1 := fun b off hA => by obtain ⟨b', off', h1, h2, _⟩ := h.2 (by omega); rw [hA] at h1; injection h1 with h1; injection h1 with h1; omega
  have hx0 : 0 ≤ nextLv true e.lv := by unfold nextLv; split <;> omega
  generalize hnx : nextLv true e.lv = nx at hx hx0 ⊢
  have HX := Lib.hid hnx
  clear hnx
  have HXX := Lib.hid hx
  clear hx
  go_enter Try.func27, Try.ntmps27
  go_wp2_with (first
    | (go_at_call 44; refine (rPlain_any _ ((h.alloc _).alloc _) (by omega)).mono ?_; rintro r w0 ⟨rfl, hb0⟩; have R3 := P3.below hb0 P3.lt; have R6 := P6.below hb0 P6.lt; have H0 := F0.trans (hb0.mono F0.size); obtain ⟨c0, c1, c2, c3, c4, c5, c6⟩ := R3.c5)
    | (go_at_call 41; refine (rNext_any true (h.below H0 (.inr (Nat.le_refl _))) (by omega) h0 h1).mono ?_; rintro r w1 ⟨rfl, hb1⟩; rw [HX.out]; clear c0 c1 c2 c3 c4 c5 c6; have Q3 := R3.below hb1 R3.lt; have Q6 := R6.below hb1 R6.lt; have H1 := H0.trans (hb1.mono H0.size); obtain ⟨c0, c1, c2, c3, c4, c5, c6⟩ := Q3.c5)
    | (go_at_call 42; refine (rRoom_no _ HXX.out).mono ?_; rintro r w2 ⟨rfl, hb2⟩; clear c0 c1 c2 c3 c4 c5 c6; have Q3' := Q3.below hb2 Q3.lt; have Q6' := Q6.below hb2 Q6.lt; have H2 := H1.trans (hb2.mono H1.size); obtain ⟨c0, c1, c2, c3, c4, c5, c6⟩ := Q3'.c5; obtain ⟨d0, d1, d2, d3, d4, d5, d6⟩ := Q6'.c5))
  have F5 := (Frm.refl (fun k => k = w.heap.size) w2).set (j := 2) rfl (.int .i64 (i + 1))
  obtain ⟨W, rfl, QW, hout⟩ := rfin (A0 := A) (base := base) (A := A) (c := c) (i := i + 1) (m := m) (v := v) (l := e :: l) (Q6'.far (p := ⟨w.heap.size, 2, none⟩) (by simp) (.int .i64 (i + 1))) (H2.trans (F5.below H2.size (fun k hk h => by omega)))
      (by have := ((h.below H2 (.inr (Nat.le_refl _))).frm F5 (fun k hk _ h => by omega)).more (B' := w2.heap.size) H2.size; simpa using this) hA0 (by simpa using hc) (.inl rfl)
  exact bodyPost_ret (results_row3 rfl _ _ _ _ _ _ rfl QW Try.underlying59 rfl (by kernel_rfl)) rfl (hout _ _ _)

set_option maxRecDepth 100000 in
set_option maxHeartbeats 1000000 in
theorem rStep20_yes {w : World} {A : Option Addr} {e : Ent} {l : List Ent} {n c : Nat} {base i m v : Int} (auto : Int) (hn : n = l.length + 1) (h : Reads w w.heap.size 3 A n (entCells (e :: l)))
    (hl : l.length + 1 ≤ 125) (h0 : 0 ≤ e.lv) (h1 : e.lv ≤ 125) (hx : nextLv false e.lv ≤ 125) (hi : i = 0) (hm : m = 0) (hv : 0 ≤ v) (hv2 : v ≤ 1152921504606846976) :
    Calls Try.prog 27 #[refV base A n c i m v, .int .u8 20, .int .i8 auto] w (RefOut w A base (⟨nextLv false e.lv, 0, true⟩ :: e :: l) i m (v + 1) e.lv (plainCls 20 e.ov) true) := by
  subst hn
  obtain ⟨F0, P3, P6⟩ := rW_facts w base A (l.length + 1) c i m v
  have hA0 : ∀ b off, A = some ⟨b, off, none⟩ → b ≠ w.heap.size + 1 := fun b off hA => by obtain ⟨b', off', h1, h2, _⟩ := h.2 (by omega); rw [hA] at h1; injection h1 with h1; injection h1 with h1; omega
  have hx0 : 0 ≤ nextLv false e.lv := by unfold nextLv; split <;> omega
  have hI := Lib.hid hi
  have hM := Lib.hid hm
  clear hi hm
  generalize hnx : nextLv false e.lv = nx at hx hx0 ⊢
  have HX := Lib.hid hnx
  clear hnx
  go_enter Try.func27, Try.ntmps27
  go_wp2_with (first
    | (go_at_call 44; refine (rPlain_any _ ((h.alloc _).alloc _) (by omega)).mono ?_; rintro r w0 ⟨rfl, hb0⟩; have R3 := P3.below hb0 P3.lt; have R6 := P6.below hb0 P6.lt; have H0 := F0.trans (hb0.mono F0.size); obtain ⟨c0, c1, c2, c3, c4, c5, c6⟩ := R3.c5)
    | (go_at_call 41; refine (rNext_any false (h.below H0 (.inr (Nat.le_refl _))) (by omega) h0 h1).mono ?_; rintro r w1 ⟨rfl, hb1⟩; rw [HX.out]; clear c0 c1 c2 c3 c4 c5 c6; have Q3 := R3.below hb1 R3.lt; have Q6 := R6.below hb1 R6.lt; have H1 := H0.trans (hb1.mono H0.size); obtain ⟨c0, c1, c2, c3, c4, c5, c6⟩ := Q3.c5)
    | (go_at_call 42; refine (rRoom_yes _ hx hI.out hM.out).mono ?_; rintro r w2 ⟨rfl, hb2⟩; clear c0 c1 c2 c3 c4 c5 c6; have Q3' := Q3.below hb2 Q3.lt; have Q6' := Q6.below hb2 Q6.lt; have H2 := H1.trans (hb2.mono H1.size); obtain ⟨c0, c1, c2, c3, c4, c5, c6⟩ := Q3'.c5)
    | (go_at_call 43; refine (rWith_any (e := ⟨nx, 0, true⟩) (l := e :: l) rfl ((h.below H2 (.inr (Nat.le_refl _))).setCell (Nat.le_refl _) _) (by simp; omega)).mono ?_; rintro r w3 ⟨g, cap, rfl, hr3, hc3, hg3, hb3⟩; have Q6b := (Q6'.far (p := ⟨w.heap.size, 4, none⟩) (by simp) (.int .i64 (v + 1))).below hb3 (by have := Q6'.lt; simp; omega); have H3 := (H2.setCell (p := ⟨w.heap.size, 4, none⟩) (Nat.le_refl _) (.int .i64 (v + 1))).trans (hb3.mono (by have := H2.size; simp; omega)); obtain ⟨d0, d1, d2, d3, d4, d5, d6⟩ := Q6b.c5))
  obtain ⟨W, rfl, QW, hout⟩ := rfin (A0 := A) (base := base) (i := i) (m := m) (v := v + 1) (l := ⟨nx, 0, true⟩ :: e :: l) Q6b H3 hr3 (fun b off hA => by have h6 := Q6'.lt; injection hA with hA; injection hA with hA; simp at hg3; omega) hc3 (.inr ⟨g, rfl, by have hz2 := H2.size; simp at hg3; omega⟩)
  exact bodyPost_ret (results_row3 rfl _ _ _ _ _ _ rfl QW Try.underlying59 rfl (by kernel_rfl)) rfl (hout _ _ _)

set_option maxRecDepth 100000 in
set_option maxHeartbeats 1000000 in
theorem rStep20_no {w : World} {A : Option Addr} {e : Ent} {l : List Ent} {n c : Nat} {base i m v : Int} (auto : Int) (hn : n = l.length + 1) (h : Reads w w.heap.size 3 A n (entCells (e :: l))) (hc : n ≤ c)
    (hl : l.length + 1 ≤ 126) (h0 : 0 ≤ e.lv) (h1 : e.lv ≤ 125) (hx : 125 < nextLv false e.lv ∨ i ≠ 0 ∨ m ≠ 0) (hi0 : 0 ≤ i) (hi2 : i ≤ 1152921504606846976) :
    Calls Try.prog 27 #[refV base A n c i m v, .int .u8 20, .int .i8 auto] w (RefOut w A base (e :: l) (i + 1) m v e.lv (plainCls 20 e.ov) true) := by
  subst hn
  obtain ⟨F0, P3, P6⟩ := rW_facts w base A (l.length + 1) c i m v
  have hA0 : ∀ b off, A = some ⟨b, off, none⟩ → b ≠ w.heap.size + 1 := fun b off hA => by obtain ⟨b', off', h1, h2, _⟩ := h.2 (by omega); rw [hA] at h1; injection h1 with h1; injection h1 with h1; omega
  have hx0 : 0 ≤ nextLv false e.lv := by unfold nextLv; split <;> omega
  generalize hnx : nextLv false e.lv = nx at hx hx0 ⊢
  have HX := Lib.hid hnx
  clear hnx
  have HXX := Lib.hid hx
  clear hx
  go_enter Try.func27, Try.ntmps27
  go_wp2_with (first
    | (go_at_call 44; refine (rPlain_any _ ((h.alloc _).alloc _) (by omega)).mono ?_; rintro r w0 ⟨rfl, hb0⟩; have R3 := P3.below hb0 P3.lt; have R6 := P6.below hb0 P6.lt; have H0 := F0.trans (hb0.mono F0.size); obtain ⟨c0, c1, c2, c3, c4, c5, c6⟩ := R3.c5)
    | (go_at_call 41; refine (rNext_any false (h.below H0 (.inr (Nat.le_refl _))) (by omega) h0 h1).mono ?_; rintro r w1 ⟨rfl, hb1⟩; rw [HX.out]; clear c0 c1 c2 c3 c4 c5 c6; have Q3 := R3.below hb1 R3.lt; have Q6 := R6.below hb1 R6.lt; have H1 := H0.trans (hb1.mono H0.size); obtain ⟨c0, c1, c2, c3, c4, c5, c6⟩ := Q3.c5)
    | (go_at_call 42; refine (rRoom_no _ HXX.out).mono ?_; rintro r w2 ⟨rfl, hb2⟩; clear c0 c1 c2 c3 c4 c5 c6; have Q3' := Q3.below hb2 Q3.lt; have Q6' := Q6.below hb2 Q6.lt; have H2 := H1.trans (hb2.mono H1.size); obtain ⟨c0, c1, c2, c3, c4, c5, c6⟩ := Q3'.c5; obtain ⟨d0, d1, d2, d3, d4, d5, d6⟩ := Q6'.c5))
  have F5 := (Frm.refl (fun k => k = w.heap.size) w2).set (j := 2) rfl (.int .i64 (i + 1))
  obtain ⟨W, rfl, QW, hout⟩ := rfin (A0 := A) (base := base) (A := A) (c := c) (i := i + 1) (m := m) (v := v) (l := e :: l) (Q6'.far (p := ⟨w.heap.size, 2, none⟩) (by simp) (.int .i64 (i + 1))) (H2.trans (F5.below H2.size (fun k hk h => by omega)))
      (by have := ((h.below H2 (.inr (Nat.le_refl _))).frm F5 (fun k hk _ h => by omega)).more (B' := w2.heap.size) H2.size; simpa using this) hA0 (by simpa using hc) (.inl rfl)
  exact bodyPost_ret (results_row3 rfl _ _ _ _ _ _ rfl QW Try.underlying59 rfl (by kernel_rfl)) rfl (hout _ _ _)

set_option maxRecDepth 100000 in
set_option maxHeartbeats 1000000 in
theorem rStep22_yes {w : World} {A : Option Addr} {e : Ent} {l : List Ent} {n c : Nat} {base i m v : Int} (auto : Int) (hn : n = l.length + 1) (h : Reads w w.heap.size 3 A n (entCells (e :: l)))
    (hl : l.length + 1 ≤ 125) (h0 : 0 ≤ e.lv) (h1 : e.lv ≤ 125) (hx : nextLv (auto == 1) e.lv ≤ 125) (hi : i = 0) (hm : m = 0) (hv : 0 ≤ v) (hv2 : v ≤ 1152921504606846976) :
    Calls Try.prog 27 #[refV base A n c i m v, .int .u8 22, .int .i8 auto] w (RefOut w A base (⟨nextLv (auto == 1) e.lv, 0, true⟩ :: e :: l) i m (v + 1) e.lv (plainCls 22 e.ov) true) := by
  subst hn
  obtain ⟨F0, P3, P6⟩ := rW_facts w base A (l.length + 1) c i m v
  have hA0 : ∀ b off, A = some ⟨b, off, none⟩ → b ≠ w.heap.size + 1 := fun b off hA => by obtain ⟨b', off', h1, h2, _⟩ := h.2 (by omega); rw [hA] at h1; injection h1 with h1; injection h1 with h1; omega
  have hx0 : 0 ≤ nextLv (auto == 1) e.lv := by unfold nextLv; split <;> omega
  have hI := Lib.hid hi
  have hM := Lib.hid hm
  clear hi hm
  generalize hnx : nextLv (auto == 1) e.lv = nx at hx hx0 ⊢
  have HX := Lib.hid hnx
  clear hnx
  go_enter Try.func27, Try.ntmps27
  go_wp2_with (first
    | (go_at_call 44; refine (rPlain_any _ ((h.alloc _).alloc _) (by omega)).mono ?_; rintro r w0 ⟨rfl, hb0⟩; have R3 := P3.below hb0 P3.lt; have R6 := P6.below hb0 P6.lt; have H0 := F0.trans (hb0.mono F0.size); obtain ⟨c0, c1, c2, c3, c4, c5, c6⟩ := R3.c5)
    | (go_at_call 41; refine (rNext_any (auto == 1) (h.below H0 (.inr (Nat.le_refl _))) (by omega) h0 h1).mono ?_; rintro r w1 ⟨rfl, hb1⟩; rw [HX.out]; clear c0 c1 c2 c3 c4 c5 c6; have Q3 := R3.below hb1 R3.lt; have Q6 := R6.below hb1 R6.lt; have H1 := H0.trans (hb1.mono H0.size); obtain ⟨c0, c1, c2, c3, c4, c5, c6⟩ := Q3.c5)
    | (go_at_call 42; refine (rRoom_yes _ hx hI.out hM.out).mono ?_; rintro r w2 ⟨rfl, hb2⟩; clear c0 c1 c2 c3 c4 c5 c6; have Q3' := Q3.below hb2 Q3.lt; have Q6' := Q6.below hb2 Q6.lt; have H2 := H1.trans (hb2.mono H1.size); obtain ⟨c0, c1, c2, c3, c4, c5, c6⟩ := Q3'.c5)
    | (go_at_call 43; refine (rWith_any (e := ⟨nx, 0, true⟩) (l := e :: l) rfl ((h.below H2 (.inr (Nat.le_refl _))).setCell (Nat.le_refl _) _) (by simp; omega)).mono ?_; rintro r w3 ⟨g, cap, rfl, hr3, hc3, hg3, hb3⟩; have Q6b := (Q6'.far (p := ⟨w.heap.size, 4, none⟩) (by simp) (.int .i64 (v + 1))).below hb3 (by have := Q6'.lt; simp; omega); have H3 := (H2.setCell (p := ⟨w.heap.size, 4, none⟩) (Nat.le_refl _) (.int .i64 (v + 1))).trans (hb3.mono (by have := H2.size; simp; omega)); obtain ⟨d0, d1, d2, d3, d4, d5, d6⟩ := Q6b.c5))
  obtain ⟨W, rfl, QW, hout⟩ := rfin (A0 := A) (base := base) (i := i) (m := m) (v := v + 1) (l := ⟨nx, 0, true⟩ :: e :: l) Q6b H3 hr3 (fun b off hA => by have h6 := Q6'.lt; injection hA with hA; injection hA with hA; simp at hg3; omega) hc3 (.inr ⟨g, rfl, by have hz2 := H2.size; simp at hg3; omega⟩)
  exact bodyPost_ret (results_row3 rfl _ _ _ _ _ _ rfl QW Try.underlying59 rfl (by kernel_rfl)) rfl (hout _ _ _)

set_option maxRecDepth 100000 in
set_option maxHeartbeats 1000000 in
theorem rStep22_no {w : World} {A : Option Addr} {e : Ent} {l : List Ent} {n c : Nat} {base i m v : Int} (auto : Int) (hn : n = l.length + 1) (h : Reads w w.heap.size 3 A n (entCells (e :: l))) (hc : n ≤ c)
    (hl : l.length + 1 ≤ 126) (h0 : 0 ≤ e.lv) (h1 : e.lv ≤ 125) (hx : 125 < nextLv (auto == 1) e.lv ∨ i ≠ 0 ∨ m ≠ 0) (hi0 : 0 ≤ i) (hi2 : i ≤ 1152921504606846976) :
    Calls Try.prog 27 #[refV base A n c i m v, .int .u8 22, .int .i8 auto] w (RefOut w A base (e :: l) (i + 1) m v e.lv (plainCls 22 e.ov) true) := by
  subst hn
  obtain ⟨F0, P3, P6⟩ := rW_facts w base A (l.length + 1) c i m v
  have hA0 : ∀ b off, A = some ⟨b, off, none⟩ → b ≠ w.heap.size + 1 := fun b off hA => by obtain ⟨b', off', h1, h2, _⟩ := h.2 (by omega); rw [hA] at h1; injection h1 with h1; injection h1 with h1; omega
  have hx0 : 0 ≤ nextLv (auto == 1) e.lv := by unfold nextLv; split <;> omega
  generalize hnx : nextLv (auto == 1) e.lv = nx at hx hx0 ⊢
  have HX := Lib.hid hnx
  clear hnx
  have HXX := Lib.hid hx
  clear hx
  go_enter Try.func27, Try.ntmps27
  go_wp2_with (first
    | (go_at_call 44; refine (rPlain_any _ ((h.alloc _).alloc _) (by omega)).mono ?_; rintro r w0 ⟨rfl, hb0⟩; have R3 := P3.below hb0 P3.lt; have R6 := P6.below hb0 P6.lt; have H0 := F0.trans (hb0.mono F0.size); obtain ⟨c0, c1, c2, c3, c4, c5, c6⟩ := R3.c5)
    | (go_at_call 41; refine (rNext_any (auto == 1) (h.below H0 (.inr (Nat.le_refl _))) (by omega) h0 h1).mono ?_; rintro r w1 ⟨rfl, hb1⟩; rw [HX.out]; clear c0 c1 c2 c3 c4 c5 c6; have Q3 := R3.below hb1 R3.lt; have Q6 := R6.below hb1 R6.lt; have H1 := H0.trans (hb1.mono H0.size); obtain ⟨c0, c1, c2, c3, c4, c5, c6⟩ := Q3.c5)
    | (go_at_call 42; refine (rRoom_no _ HXX.out).mono ?_; rintro r w2 ⟨rfl, hb2⟩; clear c0 c1 c2 c3 c4 c5 c6; have Q3' := Q3.below hb2 Q3.lt; have Q6' := Q6.below hb2 Q6.lt; have H2 := H1.trans (hb2.mono H1.size); obtain ⟨c0, c1, c2, c3, c4, c5, c6⟩ := Q3'.c5; obtain ⟨d0, d1, d2, d3, d4, d5, d6⟩ := Q6'.c5))
  have F5 := (Frm.refl (fun k => k = w.heap.size) w2).set (j := 2) rfl (.int .i64 (i + 1))
  obtain ⟨W, rfl, QW, hout⟩ := rfin (A0 := A) (base := base) (A := A) (c := c) (i := i + 1) (m := m) (v := v) (l := e :: l) (Q6'.far (p := ⟨w.heap.size, 2, none⟩) (by simp) (.int .i64 (i + 1))) (H2.trans (F5.below H2.size (fun k hk h => by omega)))
      (by have := ((h.below H2 (.inr (Nat.le_refl _))).frm F5 (fun k hk _ h => by omega)).more (B' := w2.heap.size) H2.size; simpa using this) hA0 (by simpa using hc) (.inl rfl)
  exact bodyPost_ret (results_row3 rfl _ _ _ _ _ _ rfl QW Try.underlying59 rfl (by kernel_rfl)) rfl (hout _ _ _)

end Go.Proofs.Ytfelcmppopibcaa
