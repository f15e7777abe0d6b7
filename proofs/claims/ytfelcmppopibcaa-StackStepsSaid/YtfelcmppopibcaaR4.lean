/- The reference's stack: Step. -/
import Derived.Test.YtfelcmppopibcaaR3
namespace Go.Proofs.Ytfelcmppopibcaa
open Go.RowKit

/-- What the reference's Step hands back. -/
def RefOut (w : World) (A0 : Option Addr) (base : Int) (l : List Ent) (i m v lv cl : Int) (k : Bool) (r : Ending) (w' : World) : Prop :=
  ∃ A c, r = .returned (.tuple #[refV base A l.length c i m v, .int .i8 lv, .int .u8 cl, .bool k]) ∧ Reads w' w'.heap.size 3 A l.length (entCells l) ∧ l.length ≤ c ∧ Below w.heap.size w w' ∧ (A = A0 ∨ ∃ g, A = some ⟨g, 0, none⟩ ∧ w.heap.size ≤ g)

/-- The stack's own box and the result's, when Step begins. -/
abbrev rW (w : World) (base : Int) (A : Option Addr) (n c : Nat) (i m v : Int) : World :=
  (w.alloc (.cells #[.int .i8 base, .slice A n c, .int .i64 i, .int .i64 m, .int .i64 v] 59)).alloc (.cells #[.int .i8 0, .slice none 0 0, .int .i64 0, .int .i64 0, .int .i64 0] 59)
theorem rW_facts (w : World) (base : Int) (A : Option Addr) (n c : Nat) (i m v : Int) : Below w.heap.size w (rW w base A n c i m v) ∧ Blk (rW w base A n c i m v) w.heap.size 59 #[.int .i8 base, .slice A n c, .int .i64 i, .int .i64 m, .int .i64 v] ∧
    Blk (rW w base A n c i m v) (w.heap.size + 1) 59 #[.int .i8 0, .slice none 0 0, .int .i64 0, .int .i64 0, .int .i64 0] := by
  refine ⟨((Below.refl _ _).alloc (Nat.le_refl _) _).alloc (by simp) _, (Blk.new _ _ _).alloc _, ?_⟩
  have := Blk.new (w.alloc (.cells #[.int .i8 base, .slice A n c, .int .i64 i, .int .i64 m, .int .i64 v] 59)) 59 #[.int .i8 0, .slice none 0 0, .int .i64 0, .int .i64 0, .int .i64 0]
  simpa using this

/-- The end: the result's box is written and handed back. -/
theorem rfin {w w3 : World} {A0 : Option Addr} {base : Int} {A : Option Addr} {l : List Ent} {c : Nat} {i m v : Int} {a0 a1 a2 a3 a4 : Value} (Q6 : Blk w3 (w.heap.size + 1) 59 #[a0, a1, a2, a3, a4]) (hb : Below w.heap.size w w3) (hr : Reads w3 w3.heap.size 3 A l.length (entCells l))
    (hA : ∀ b off, A = some ⟨b, off, none⟩ → b ≠ w.heap.size + 1) (hc : l.length ≤ c) (hAA : A = A0 ∨ ∃ g, A = some ⟨g, 0, none⟩ ∧ w.heap.size ≤ g) :
    ∃ W, W = (((((w3.setCell ⟨w.heap.size + 1, 0, none⟩ (.int .i8 base)).setCell ⟨w.heap.size + 1, 1, none⟩ (.slice A l.length c)).setCell ⟨w.heap.size + 1, 2, none⟩ (.int .i64 i)).setCell ⟨w.heap.size + 1, 3, none⟩ (.int .i64 m)).setCell ⟨w.heap.size + 1, 4, none⟩ (.int .i64 v)) ∧
      Blk W (w.heap.size + 1) 59 #[.int .i8 base, .slice A l.length c, .int .i64 i, .int .i64 m, .int .i64 v] ∧ ∀ lv cl k, RefOut w A0 base l i m v lv cl k (.returned (.tuple #[refV base A l.length c i m v, .int .i8 lv, .int .u8 cl, .bool k])) W := by
  have F := frm_put5 w3 (w.heap.size + 1) (.int .i8 base) (.slice A l.length c) (.int .i64 i) (.int .i64 m) (.int .i64 v)
  refine ⟨_, rfl, blk_put5 _ _ _ _ _ Q6, fun lv cl k => ⟨A, c, rfl, ?_, hc, hb.trans (F.below hb.size (fun k hk h => by omega)), hAA⟩⟩
  have h := hr.frmA F hA
  simpa using h

set_option maxRecDepth 100000 in
set_option maxHeartbeats 1000000 in
theorem rStep17_yes {w : World} {A : Option Addr} {e : Ent} {l : List Ent} {n c : Nat} {base i m v : Int} (auto : Int) (hn : n = l.length + 1) (h : Reads w w.heap.size 3 A n (entCells (e :: l)))
    (hl : l.length + 1 ≤ 125) (h0 : 0 ≤ e.lv) (h1 : e.lv ≤ 125) (hx : nextLv true e.lv ≤ 125) (hi : i = 0) (hm : m = 0) :
    Calls Try.prog 27 #[refV base A n c i m v, .int .u8 17, .int .i8 auto] w (RefOut w A base (⟨nextLv true e.lv, 0, false⟩ :: e :: l) i m v (-1) 17 false) := by
  subst hn
  obtain ⟨F0, P3, P6⟩ := rW_facts w base A (l.length + 1) c i m v
  have hx0 : 0 ≤ nextLv true e.lv := by unfold nextLv; split <;> omega
  have hI := Lib.hid hi
  have hM := Lib.hid hm
  clear hi hm
  generalize hnx : nextLv true e.lv = nx at hx hx0 ⊢
  have HX := Lib.hid hnx
  clear hnx
  go_enter Try.func27, Try.ntmps27
  go_wp2_with (first
    | (go_at_call 41; refine (rNext_any true ((h.alloc _).alloc _) (by omega) h0 h1).mono ?_; rintro r w1 ⟨rfl, hb1⟩; rw [HX.out]; have Q3 := P3.below hb1 P3.lt; have Q6 := P6.below hb1 P6.lt; have H1 := F0.trans (hb1.mono F0.size); obtain ⟨c0, c1, c2, c3, c4, c5, c6⟩ := Q3.c5)
    | (go_at_call 42; refine (rRoom_yes _ hx hI.out hM.out).mono ?_; rintro r w2 ⟨rfl, hb2⟩; clear c0 c1 c2 c3 c4 c5 c6; have Q3' := Q3.below hb2 Q3.lt; have Q6' := Q6.below hb2 Q6.lt; have H2 := H1.trans (hb2.mono H1.size); obtain ⟨c0, c1, c2, c3, c4, c5, c6⟩ := Q3'.c5)
    | (go_at_call 43; refine (rWith_any (e := ⟨nx, 0, false⟩) (l := e :: l) rfl ((h.below H2 (.inr (Nat.le_refl _))).alloc _) (by simp; omega)).mono ?_; rintro r w3 ⟨g, cap, rfl, hr3, hc3, hg3, hb3⟩; have Q6b := (Q6'.alloc (.cells #[.int .i8 nx, .int .u8 0, .bool false] 88)).below hb3 (by have := Q6'.lt; simp; omega); have H3 := (H2.alloc H2.size (.cells #[.int .i8 nx, .int .u8 0, .bool false] 88)).trans (hb3.mono (by have := H2.size; simp; omega)); obtain ⟨d0, d1, d2, d3, d4, d5, d6⟩ := Q6b.c5))
  obtain ⟨W, rfl, QW, hout⟩ := rfin (A0 := A) (base := base) (i := i) (m := m) (v := v) (l := ⟨nx, 0, false⟩ :: e :: l) Q6b H3 hr3 (fun b off hA => by have h6 := Q6'.lt; injection hA with hA; injection hA with hA; simp at hg3; omega) hc3 (.inr ⟨g, rfl, by have hz2 := H2.size; simp at hg3; omega⟩)
  exact bodyPost_ret (results_row3 rfl _ _ _ _ _ _ rfl QW Try.underlying59 rfl (by kernel_rfl)) rfl (hout _ _ _)

set_option maxRecDepth 100000 in
set_option maxHeartbeats 1000000 in
theorem rStep17_no {w : World} {A : Option Addr} {e : Ent} {l : List Ent} {n c : Nat} {base i m v : Int} (auto : Int) (hn : n = l.length + 1) (h : Reads w w.heap.size 3 A n (entCells (e :: l))) (hc : n ≤ c)
    (hl : l.length + 1 ≤ 126) (h0 : 0 ≤ e.lv) (h1 : e.lv ≤ 125) (hx : 125 < nextLv true e.lv ∨ i ≠ 0 ∨ m ≠ 0) (hm0 : 0 ≤ m) (hm2 : m ≤ 1152921504606846976) :
    Calls Try.prog 27 #[refV base A n c i m v, .int .u8 17, .int .i8 auto] w (RefOut w A base (e :: l) i (if i = 0 then m + 1 else m) v (-1) 17 false) := by
  subst hn
  obtain ⟨F0, P3, P6⟩ := rW_facts w base A (l.length + 1) c i m v
  have hx0 : 0 ≤ nextLv true e.lv := by unfold nextLv; split <;> omega
  generalize hnx : nextLv true e.lv = nx at hx hx0 ⊢
  have HX := Lib.hid hnx
  clear hnx
  have HXX := Lib.hid hx
  clear hx
  by_cases hi : i = 0
  · subst hi
    rw [if_pos rfl]
    go_enter Try.func27, Try.ntmps27
    go_wp2_with (first
      | (go_at_call 41; refine (rNext_any true ((h.alloc _).alloc _) (by omega) h0 h1).mono ?_; rintro r w1 ⟨rfl, hb1⟩; rw [HX.out]; have Q3 := P3.below hb1 P3.lt; have Q6 := P6.below hb1 P6.lt; have H1 := F0.trans (hb1.mono F0.size); obtain ⟨c0, c1, c2, c3, c4, c5, c6⟩ := Q3.c5)
      | (go_at_call 42; refine (rRoom_no _ HXX.out).mono ?_; rintro r w2 ⟨rfl, hb2⟩; clear c0 c1 c2 c3 c4 c5 c6; have Q3' := Q3.below hb2 Q3.lt; have Q6' := Q6.below hb2 Q6.lt; have H2 := H1.trans (hb2.mono H1.size); obtain ⟨c0, c1, c2, c3, c4, c5, c6⟩ := Q3'.c5; obtain ⟨d0, d1, d2, d3, d4, d5, d6⟩ := Q6'.c5))
    have F5 := (Frm.refl (fun k => k = w.heap.size) w2).set (j := 3) rfl (.int .i64 (m + 1))
    obtain ⟨W, rfl, QW, hout⟩ := rfin (A0 := A) (base := base) (A := A) (c := c) (i := 0) (m := m + 1) (v := v) (l := e :: l) (Q6'.far (p := ⟨w.heap.size, 3, none⟩) (by simp) (.int .i64 (m + 1))) (H2.trans (F5.below H2.size (fun k hk h => by omega)))
      (by have := ((h.below H2 (.inr (Nat.le_refl _))).frm F5 (fun k hk _ h => by omega)).more (B' := w2.heap.size) H2.size; simpa using this) (fun b off hA => by obtain ⟨b', off', h1, h2, _⟩ := h.2 (by omega); rw [hA] at h1; injection h1 with h1; injection h1 with h1; omega) (by simpa using hc) (.inl rfl)
    exact bodyPost_ret (results_row3 rfl _ _ _ _ _ _ rfl QW Try.underlying59 rfl (by kernel_rfl)) rfl (hout _ _ _)
  · rw [if_neg hi]
    have hi' : (i == 0) = false := beq_eq_false_iff_ne.2 hi
    clear hi
    go_enter Try.func27, Try.ntmps27
    go_wp2_with (first
      | (go_at_call 41; refine (rNext_any true ((h.alloc _).alloc _) (by omega) h0 h1).mono ?_; rintro r w1 ⟨rfl, hb1⟩; rw [HX.out]; have Q3 := P3.below hb1 P3.lt; have Q6 := P6.below hb1 P6.lt; have H1 := F0.trans (hb1.mono F0.size); obtain ⟨c0, c1, c2, c3, c4, c5, c6⟩ := Q3.c5)
      | (go_at_call 42; refine (rRoom_no _ HXX.out).mono ?_; rintro r w2 ⟨rfl, hb2⟩; clear c0 c1 c2 c3 c4 c5 c6; have Q3' := Q3.below hb2 Q3.lt; have Q6' := Q6.below hb2 Q6.lt; have H2 := H1.trans (hb2.mono H1.size); obtain ⟨c0, c1, c2, c3, c4, c5, c6⟩ := Q3'.c5; obtain ⟨d0, d1, d2, d3, d4, d5, d6⟩ := Q6'.c5))
    obtain ⟨W, rfl, QW, hout⟩ := rfin (A0 := A) (base := base) (A := A) (c := c) (i := i) (m := m) (v := v) (l := e :: l) Q6' H2
      (by have := (h.below H2 (.inr (Nat.le_refl _))).more (B' := w2.heap.size) H2.size; simpa using this) (fun b off hA => by obtain ⟨b', off', h1, h2, _⟩ := h.2 (by omega); rw [hA] at h1; injection h1 with h1; injection h1 with h1; omega) (by simpa using hc) (.inl rfl)
    exact bodyPost_ret (results_row3 rfl _ _ _ _ _ _ rfl QW Try.underlying59 rfl (by kernel_rfl)) rfl (hout _ _ _)

set_option maxRecDepth 100000 in
set_option maxHeartbeats 1000000 in
theorem rStep18_yes {w : World} {A : Option Addr} {e : Ent} {l : List Ent} {n c : Nat} {base i m v : Int} (auto : Int) (hn : n = l.length + 1) (h : Reads w w.heap.size 3 A n (entCells (e :: l)))
    (hl : l.length + 1 ≤ 125) (h0 : 0 ≤ e.lv) (h1 : e.lv ≤ 125) (hx : nextLv true e.lv ≤ 125) (hi : i = 0) (hm : m = 0) :
    Calls Try.prog 27 #[refV base A n c i m v, .int .u8 18, .int .i8 auto] w (RefOut w A base (⟨nextLv true e.lv, 2, false⟩ :: e :: l) i m v (-1) 18 false) := by
  subst hn
  obtain ⟨F0, P3, P6⟩ := rW_facts w base A (l.length + 1) c i m v
  have hx0 : 0 ≤ nextLv true e.lv := by unfold nextLv; split <;> omega
  have hI := Lib.hid hi
  have hM := Lib.hid hm
  clear hi hm
  generalize hnx : nextLv true e.lv = nx at hx hx0 ⊢
  have HX := Lib.hid hnx
  clear hnx
  go_enter Try.func27, Try.ntmps27
  go_wp2_with (first
    | (go_at_call 41; refine (rNext_any true ((h.alloc _).alloc _) (by omega) h0 h1).mono ?_; rintro r w1 ⟨rfl, hb1⟩; rw [HX.out]; have Q3 := P3.below hb1 P3.lt; have Q6 := P6.below hb1 P6.lt; have H1 := F0.trans (hb1.mono F0.size); obtain ⟨c0, c1, c2, c3, c4, c5, c6⟩ := Q3.c5)
    | (go_at_call 42; refine (rRoom_yes _ hx hI.out hM.out).mono ?_; rintro r w2 ⟨rfl, hb2⟩; clear c0 c1 c2 c3 c4 c5 c6; have Q3' := Q3.below hb2 Q3.lt; have Q6' := Q6.below hb2 Q6.lt; have H2 := H1.trans (hb2.mono H1.size); obtain ⟨c0, c1, c2, c3, c4, c5, c6⟩ := Q3'.c5)
    | (go_at_call 43; refine (rWith_any (e := ⟨nx, 2, false⟩) (l := e :: l) rfl ((h.below H2 (.inr (Nat.le_refl _))).alloc _) (by simp; omega)).mono ?_; rintro r w3 ⟨g, cap, rfl, hr3, hc3, hg3, hb3⟩; have Q6b := (Q6'.alloc (.cells #[.int .i8 nx, .int .u8 2, .bool false] 88)).below hb3 (by have := Q6'.lt; simp; omega); have H3 := (H2.alloc H2.size (.cells #[.int .i8 nx, .int .u8 2, .bool false] 88)).trans (hb3.mono (by have := H2.size; simp; omega)); obtain ⟨d0, d1, d2, d3, d4, d5, d6⟩ := Q6b.c5))
  obtain ⟨W, rfl, QW, hout⟩ := rfin (A0 := A) (base := base) (i := i) (m := m) (v := v) (l := ⟨nx, 2, false⟩ :: e :: l) Q6b H3 hr3 (fun b off hA => by have h6 := Q6'.lt; injection hA with hA; injection hA with hA; simp at hg3; omega) hc3 (.inr ⟨g, rfl, by have hz2 := H2.size; simp at hg3; omega⟩)
  exact bodyPost_ret (results_row3 rfl _ _ _ _ _ _ rfl QW Try.underlying59 rfl (by kernel_rfl)) rfl (hout _ _ _)

set_option maxRecDepth 100000 in
set_option maxHeartbeats 1000000 in
theorem rStep18_no {w : World} {A : Option Addr} {e : Ent} {l : List Ent} {n c : Nat} {base i m v : Int} (auto : Int) (hn : n = l.length + 1) (h : Reads w w.heap.size 3 A n (entCells (e :: l))) (hc : n ≤ c)
    (hl : l.length + 1 ≤ 126) (h0 : 0 ≤ e.lv) (h1 : e.lv ≤ 125) (hx : 125 < nextLv true e.lv ∨ i ≠ 0 ∨ m ≠ 0) (hm0 : 0 ≤ m) (hm2 : m ≤ 1152921504606846976) :
    Calls Try.prog 27 #[refV base A n c i m v, .int .u8 18, .int .i8 auto] w (RefOut w A base (e :: l) i (if i = 0 then m + 1 else m) v (-1) 18 false) := by
  subst hn
  obtain ⟨F0, P3, P6⟩ := rW_facts w base A (l.length + 1) c i m v
  have hx0 : 0 ≤ nextLv true e.lv := by unfold nextLv; split <;> omega
  generalize hnx : nextLv true e.lv = nx at hx hx0 ⊢
  have HX := Lib.hid hnx
  clear hnx
  have HXX := Lib.hid hx
  clear hx
  by_cases hi : i = 0
  · subst hi
    rw [if_pos rfl]
    go_enter Try.func27, Try.ntmps27
    go_wp2_with (first
      | (go_at_call 41; refine (rNext_any true ((h.alloc _).alloc _) (by omega) h0 h1).mono ?_; rintro r w1 ⟨rfl, hb1⟩; rw [HX.out]; have Q3 := P3.below hb1 P3.lt; have Q6 := P6.below hb1 P6.lt; have H1 := F0.trans (hb1.mono F0.size); obtain ⟨c0, c1, c2, c3, c4, c5, c6⟩ := Q3.c5)
      | (go_at_call 42; refine (rRoom_no _ HXX.out).mono ?_; rintro r w2 ⟨rfl, hb2⟩; clear c0 c1 c2 c3 c4 c5 c6; have Q3' := Q3.below hb2 Q3.lt; have Q6' := Q6.below hb2 Q6.lt; have H2 := H1.trans (hb2.mono H1.size); obtain ⟨c0, c1, c2, c3, c4, c5, c6⟩ := Q3'.c5; obtain ⟨d0, d1, d2, d3, d4, d5, d6⟩ := Q6'.c5))
    have F5 := (Frm.refl (fun k => k = w.heap.size) w2).set (j := 3) rfl (.int .i64 (m + 1))
    obtain ⟨W, rfl, QW, hout⟩ := rfin (A0 := A) (base := base) (A := A) (c := c) (i := 0) (m := m + 1) (v := v) (l := e :: l) (Q6'.far (p := ⟨w.heap.size, 3, none⟩) (by simp) (.int .i64 (m + 1))) (H2.trans (F5.below H2.size (fun k hk h => by omega)))
      (by have := ((h.below H2 (.inr (Nat.le_refl _))).frm F5 (fun k hk _ h => by omega)).more (B' := w2.heap.size) H2.size; simpa using this) (fun b off hA => by obtain ⟨b', off', h1, h2, _⟩ := h.2 (by omega); rw [hA] at h1; injection h1 with h1; injection h1 with h1; omega) (by simpa using hc) (.inl rfl)
    exact bodyPost_ret (results_row3 rfl _ _ _ _ _ _ rfl QW Try.underlying59 rfl (by kernel_rfl)) rfl (hout _ _ _)
  · rw [if_neg hi]
    have hi' : (i == 0) = false := beq_eq_false_iff_ne.2 hi
    clear hi
    go_enter Try.func27, Try.ntmps27
    go_wp2_with (first
      | (go_at_call 41; refine (rNext_any true ((h.alloc _).alloc _) (by omega) h0 h1).mono ?_; rintro r w1 ⟨rfl, hb1⟩; rw [HX.out]; have Q3 := P3.below hb1 P3.lt; have Q6 := P6.below hb1 P6.lt; have H1 := F0.trans (hb1.mono F0.size); obtain ⟨c0, c1, c2, c3, c4, c5, c6⟩ := Q3.c5)
      | (go_at_call 42; refine (rRoom_no _ HXX.out).mono ?_; rintro r w2 ⟨rfl, hb2⟩; clear c0 c1 c2 c3 c4 c5 c6; have Q3' := Q3.below hb2 Q3.lt; have Q6' := Q6.below hb2 Q6.lt; have H2 := H1.trans (hb2.mono H1.size); obtain ⟨c0, c1, c2, c3, c4, c5, c6⟩ := Q3'.c5; obtain ⟨d0, d1, d2, d3, d4, d5, d6⟩ := Q6'.c5))
    obtain ⟨W, rfl, QW, hout⟩ := rfin (A0 := A) (base := base) (A := A) (c := c) (i := i) (m := m) (v := v) (l := e :: l) Q6' H2
      (by have := (h.below H2 (.inr (Nat.le_refl _))).more (B' := w2.heap.size) H2.size; simpa using this) (fun b off hA => by obtain ⟨b', off', h1, h2, _⟩ := h.2 (by omega); rw [hA] at h1; injection h1 with h1; injection h1 with h1; omega) (by simpa using hc) (.inl rfl)
    exact bodyPost_ret (results_row3 rfl _ _ _ _ _ _ rfl QW Try.underlying59 rfl (by kernel_rfl)) rfl (hout _ _ _)

set_option maxRecDepth 100000 in
set_option maxHeartbeats 1000000 in
theorem rStep15_yes {w : World} {A : Option Addr} {e : Ent} {l : List Ent} {n c : Nat} {base i m v : Int} (auto : Int) (hn : n = l.length + 1) (h : Reads w w.heap.size 3 A n (entCells (e :: l)))
    (hl : l.length + 1 ≤ 125) (h0 : 0 ≤ e.lv) (h1 : e.lv ≤ 125) (hx : nextLv false e.lv ≤ 125) (hi : i = 0) (hm : m = 0) :
    Calls Try.prog 27 #[refV base A n c i m v, .int .u8 15, .int .i8 auto] w (RefOut w A base (⟨nextLv false e.lv, 0, false⟩ :: e :: l) i m v (-1) 15 false) := by
  subst hn
  obtain ⟨F0, P3, P6⟩ := rW_facts w base A (l.length + 1) c i m v
  have hx0 : 0 ≤ nextLv false e.lv := by unfold nextLv; split <;> omega
  have hI := Lib.hid hi
  have hM := Lib.hid hm
  clear hi hm
  generalize hnx : nextLv false e.lv = nx at hx hx0 ⊢
  have HX := Lib.hid hnx
  clear hnx
  go_enter Try.func27, Try.ntmps27
  go_wp2_with (first
    | (go_at_call 41; refine (rNext_any false ((h.alloc _).alloc _) (by omega) h0 h1).mono ?_; rintro r w1 ⟨rfl, hb1⟩; rw [HX.out]; have Q3 := P3.below hb1 P3.lt; have Q6 := P6.below hb1 P6.lt; have H1 := F0.trans (hb1.mono F0.size); obtain ⟨c0, c1, c2, c3, c4, c5, c6⟩ := Q3.c5)
    | (go_at_call 42; refine (rRoom_yes _ hx hI.out hM.out).mono ?_; rintro r w2 ⟨rfl, hb2⟩; clear c0 c1 c2 c3 c4 c5 c6; have Q3' := Q3.below hb2 Q3.lt; have Q6' := Q6.below hb2 Q6.lt; have H2 := H1.trans (hb2.mono H1.size); obtain ⟨c0, c1, c2, c3, c4, c5, c6⟩ := Q3'.c5)
    | (go_at_call 43; refine (rWith_any (e := ⟨nx, 0, false⟩) (l := e :: l) rfl ((h.below H2 (.inr (Nat.le_refl _))).alloc _) (by simp; omega)).mono ?_; rintro r w3 ⟨g, cap, rfl, hr3, hc3, hg3, hb3⟩; have Q6b := (Q6'.alloc (.cells #[.int .i8 nx, .int .u8 0, .bool false] 88)).below hb3 (by have := Q6'.lt; simp; omega); have H3 := (H2.alloc H2.size (.cells #[.int .i8 nx, .int .u8 0, .bool false] 88)).trans (hb3.mono (by have := H2.size; simp; omega)); obtain ⟨d0, d1, d2, d3, d4, d5, d6⟩ := Q6b.c5))
  obtain ⟨W, rfl, QW, hout⟩ := rfin (A0 := A) (base := base) (i := i) (m := m) (v := v) (l := ⟨nx, 0, false⟩ :: e :: l) Q6b H3 hr3 (fun b off hA => by have h6 := Q6'.lt; injection hA with hA; injection hA with hA; simp at hg3; omega) hc3 (.inr ⟨g, rfl, by have hz2 := H2.size; simp at hg3; omega⟩)
  exact bodyPost_ret (results_row3 rfl _ _ _ _ _ _ rfl QW Try.underlying59 rfl (by kernel_rfl)) rfl (hout _ _ _)

set_option maxRecDepth 100000 in
set_option maxHeartbeats 1000000 in
theorem rStep15_no {w : World} {A : Option Addr} {e : Ent} {l : List Ent} {n c : Nat} {base i m v : Int} (auto : Int) (hn : n = l.length + 1) (h : Reads w w.heap.size 3 A n (entCells (e :: l))) (hc : n ≤ c)
    (hl : l.length + 1 ≤ 126) (h0 : 0 ≤ e.lv) (h1 : e.lv ≤ 125) (hx : 125 < nextLv false e.lv ∨ i ≠ 0 ∨ m ≠ 0) (hm0 : 0 ≤ m) (hm2 : m ≤ 1152921504606846976) :
    Calls Try.prog 27 #[refV base A n c i m v, .int .u8 15, .int .i8 auto] w (RefOut w A base (e :: l) i (if i = 0 then m + 1 else m) v (-1) 15 false) := by
  subst hn
  obtain ⟨F0, P3, P6⟩ := rW_facts w base A (l.length + 1) c i m v
  have hx0 : 0 ≤ nextLv false e.lv := by unfold nextLv; split <;> omega
  generalize hnx : nextLv false e.lv = nx at hx hx0 ⊢
  have HX := Lib.hid hnx
  clear hnx
  have HXX := Lib.hid hx
  clear hx
  by_cases hi : i = 0
  · subst hi
    rw [if_pos rfl]
    go_enter Try.func27, Try.ntmps27
    go_wp2_with (first
      | (go_at_call 41; refine (rNext_any false ((h.alloc _).alloc _) (by omega) h0 h1).mono ?_; rintro r w1 ⟨rfl, hb1⟩; rw [HX.out]; have Q3 := P3.below hb1 P3.lt; have Q6 := P6.below hb1 P6.lt; have H1 := F0.trans (hb1.mono F0.size); obtain ⟨c0, c1, c2, c3, c4, c5, c6⟩ := Q3.c5)
      | (go_at_call 42; refine (rRoom_no _ HXX.out).mono ?_; rintro r w2 ⟨rfl, hb2⟩; clear c0 c1 c2 c3 c4 c5 c6; have Q3' := Q3.below hb2 Q3.lt; have Q6' := Q6.below hb2 Q6.lt; have H2 := H1.trans (hb2.mono H1.size); obtain ⟨c0, c1, c2, c3, c4, c5, c6⟩ := Q3'.c5; obtain ⟨d0, d1, d2, d3, d4, d5, d6⟩ := Q6'.c5))
    have F5 := (Frm.refl (fun k => k = w.heap.size) w2).set (j := 3) rfl (.int .i64 (m + 1))
    obtain ⟨W, rfl, QW, hout⟩ := rfin (A0 := A) (base := base) (A := A) (c := c) (i := 0) (m := m + 1) (v := v) (l := e :: l) (Q6'.far (p := ⟨w.heap.size, 3, none⟩) (by simp) (.int .i64 (m + 1))) (H2.trans (F5.below H2.size (fun k hk h => by omega)))
      (by have := ((h.below H2 (.inr (Nat.le_refl _))).frm F5 (fun k hk _ h => by omega)).more (B' := w2.heap.size) H2.size; simpa using this) (fun b off hA => by obtain ⟨b', off', h1, h2, _⟩ := h.2 (by omega); rw [hA] at h1; injection h1 with h1; injection h1 with h1; omega) (by simpa using hc) (.inl rfl)
    exact bodyPost_ret (results_row3 rfl _ _ _ _ _ _ rfl QW Try.underlying59 rfl (by kernel_rfl)) rfl (hout _ _ _)
  · rw [if_neg hi]
    have hi' : (i == 0) = false := beq_eq_false_iff_ne.2 hi
    clear hi
    go_enter Try.func27, Try.ntmps27
    go_wp2_with (first
      | (go_at_call 41; refine (rNext_any false ((h.alloc _).alloc _) (by omega) h0 h1).mono ?_; rintro r w1 ⟨rfl, hb1⟩; rw [HX.out]; have Q3 := P3.below hb1 P3.lt; have Q6 := P6.below hb1 P6.lt; have H1 := F0.trans (hb1.mono F0.size); obtain ⟨c0, c1, c2, c3, c4, c5, c6⟩ := Q3.c5)
      | (go_at_call 42; refine (rRoom_no _ HXX.out).mono ?_; rintro r w2 ⟨rfl, hb2⟩; clear c0 c1 c2 c3 c4 c5 c6; have Q3' := Q3.below hb2 Q3.lt; have Q6' := Q6.below hb2 Q6.lt; have H2 := H1.trans (hb2.mono H1.size); obtain ⟨c0, c1, c2, c3, c4, c5, c6⟩ := Q3'.c5; obtain ⟨d0, d1, d2, d3, d4, d5, d6⟩ := Q6'.c5))
    obtain ⟨W, rfl, QW, hout⟩ := rfin (A0 := A) (base := base) (A := A) (c := c) (i := i) (m := m) (v := v) (l := e :: l) Q6' H2
      (by have := (h.below H2 (.inr (Nat.le_refl _))).more (B' := w2.heap.size) H2.size; simpa using this) (fun b off hA => by obtain ⟨b', off', h1, h2, _⟩ := h.2 (by omega); rw [hA] at h1; injection h1 with h1; injection h1 with h1; omega) (by simpa using hc) (.inl rfl)
    exact bodyPost_ret (results_row3 rfl _ _ _ _ _ _ rfl QW Try.underlying59 rfl (by kernel_rfl)) rfl (hout _ _ _)

set_option maxRecDepth 100000 in
set_option maxHeartbeats 1000000 in
theorem rStep16_yes {w : World} {A : Option Addr} {e : Ent} {l : List Ent} {n c : Nat} {base i m v : Int} (auto : Int) (hn : n = l.length + 1) (h : Reads w w.heap.size 3 A n (entCells (e :: l)))
    (hl : l.length + 1 ≤ 125) (h0 : 0 ≤ e.lv) (h1 : e.lv ≤ 125) (hx : nextLv false e.lv ≤ 125) (hi : i = 0) (hm : m = 0) :
    Calls Try.prog 27 #[refV base A n c i m v, .int .u8 16, .int .i8 auto] w (RefOut w A base (⟨nextLv false e.lv, 1, false⟩ :: e :: l) i m v (-1) 16 false) := by
  subst hn
  obtain ⟨F0, P3, P6⟩ := rW_facts w base A (l.length + 1) c i m v
  have hx0 : 0 ≤ nextLv false e.lv := by unfold nextLv; split <;> omega
  have hI := Lib.hid hi
  have hM := Lib.hid hm
  clear hi hm
  generalize hnx : nextLv false e.lv = nx at hx hx0 ⊢
  have HX := Lib.hid hnx
  clear hnx
  go_enter Try.func27, Try.ntmps27
  go_wp2_with (first
    | (go_at_call 41; refine (rNext_any false ((h.alloc _).alloc _) (by omega) h0 h1).mono ?_; rintro r w1 ⟨rfl, hb1⟩; rw [HX.out]; have Q3 := P3.below hb1 P3.lt; have Q6 := P6.below hb1 P6.lt; have H1 := F0.trans (hb1.mono F0.size); obtain ⟨c0, c1, c2, c3, c4, c5, c6⟩ := Q3.c5)
    | (go_at_call 42; refine (rRoom_yes _ hx hI.out hM.out).mono ?_; rintro r w2 ⟨rfl, hb2⟩; clear c0 c1 c2 c3 c4 c5 c6; have Q3' := Q3.below hb2 Q3.lt; have Q6' := Q6.below hb2 Q6.lt; have H2 := H1.trans (hb2.mono H1.size); obtain ⟨c0, c1, c2, c3, c4, c5, c6⟩ := Q3'.c5)
    | (go_at_call 43; refine (rWith_any (e := ⟨nx, 1, false⟩) (l := e :: l) rfl ((h.below H2 (.inr (Nat.le_refl _))).alloc _) (by simp; omega)).mono ?_; rintro r w3 ⟨g, cap, rfl, hr3, hc3, hg3, hb3⟩; have Q6b := (Q6'.alloc (.cells #[.int .i8 nx, .int .u8 1, .bool false] 88)).below hb3 (by have := Q6'.lt; simp; omega); have H3 := (H2.alloc H2.size (.cells #[.int .i8 nx, .int .u8 1, .bool false] 88)).trans (hb3.mono (by have := H2.size; simp; omega)); obtain ⟨d0, d1, d2, d3, d4, d5, d6⟩ := Q6b.c5))
  obtain ⟨W, rfl, QW, hout⟩ := rfin (A0 := A) (base := base) (i := i) (m := m) (v := v) (l := ⟨nx, 1, false⟩ :: e :: l) Q6b H3 hr3 (fun b off hA => by have h6 := Q6'.lt; injection hA with hA; injection hA with hA; simp at hg3; omega) hc3 (.inr ⟨g, rfl, by have hz2 := H2.size; simp at hg3; omega⟩)
  exact bodyPost_ret (results_row3 rfl _ _ _ _ _ _ rfl QW Try.underlying59 rfl (by kernel_rfl)) rfl (hout _ _ _)

set_option maxRecDepth 100000 in
set_option maxHeartbeats 1000000 in
theorem rStep16_no {w : World} {A : Option Addr} {e : Ent} {l : List Ent} {n c : Nat} {base i m v : Int} (auto : Int) (hn : n = l.length + 1) (h : Reads w w.heap.size 3 A n (entCells (e :: l))) (hc : n ≤ c)
    (hl : l.length + 1 ≤ 126) (h0 : 0 ≤ e.lv) (h1 : e.lv ≤ 125) (hx : 125 < nextLv false e.lv ∨ i ≠ 0 ∨ m ≠ 0) (hm0 : 0 ≤ m) (hm2 : m ≤ 1152921504606846976) :
    Calls Try.prog 27 #[refV base A n c i m v, .int .u8 16, .int .i8 auto] w (RefOut w A base (e :: l) i (if i = 0 then m + 1 else m) v (-1) 16 false) := by
  subst hn
  obtain ⟨F0, P3, P6⟩ := rW_facts w base A (l.length + 1) c i m v
  have hx0 : 0 ≤ nextLv false e.lv := by unfold nextLv; split <;> omega
  generalize hnx : nextLv false e.lv = nx at hx hx0 ⊢
  have HX := Lib.hid hnx
  clear hnx
  have HXX := Lib.hid hx
  clear hx
  by_cases hi : i = 0
  · subst hi
    rw [if_pos rfl]
    go_enter Try.func27, Try.ntmps27
    go_wp2_with (first
      | (go_at_call 41; refine (rNext_any false ((h.alloc _).alloc _) (by omega) h0 h1).mono ?_; rintro r w1 ⟨rfl, hb1⟩; rw [HX.out]; have Q3 := P3.below hb1 P3.lt; have Q6 := P6.below hb1 P6.lt; have H1 := F0.trans (hb1.mono F0.size); obtain ⟨c0, c1, c2, c3, c4, c5, c6⟩ := Q3.c5)
      | (go_at_call 42; refine (rRoom_no _ HXX.out).mono ?_; rintro r w2 ⟨rfl, hb2⟩; clear c0 c1 c2 c3 c4 c5 c6; have Q3' := Q3.below hb2 Q3.lt; have Q6' := Q6.below hb2 Q6.lt; have H2 := H1.trans (hb2.mono H1.size); obtain ⟨c0, c1, c2, c3, c4, c5, c6⟩ := Q3'.c5; obtain ⟨d0, d1, d2, d3, d4, d5, d6⟩ := Q6'.c5))
    have F5 := (Frm.refl (fun k => k = w.heap.size) w2).set (j := 3) rfl (.int .i64 (m + 1))
    obtain ⟨W, rfl, QW, hout⟩ := rfin (A0 := A) (base := base) (A := A) (c := c) (i := 0) (m := m + 1) (v := v) (l := e :: l) (Q6'.far (p := ⟨w.heap.size, 3, none⟩) (by simp) (.int .i64 (m + 1))) (H2.trans (F5.below H2.size (fun k hk h => by omega)))
      (by have := ((h.below H2 (.inr (Nat.le_refl _))).frm F5 (fun k hk _ h => by omega)).more (B' := w2.heap.size) H2.size; simpa using this) (fun b off hA => by obtain ⟨b', off', h1, h2, _⟩ := h.2 (by omega); rw [hA] at h1; injection h1 with h1; injection h1 with h1; omega) (by simpa using hc) (.inl rfl)
    exact bodyPost_ret (results_row3 rfl _ _ _ _ _ _ rfl QW Try.underlying59 rfl (by kernel_rfl)) rfl (hout _ _ _)
  · rw [if_neg hi]
    have hi' : (i == 0) = false := beq_eq_false_iff_ne.2 hi
    clear hi
    go_enter Try.func27, Try.ntmps27
    go_wp2_with (first
      | (go_at_call 41; refine (rNext_any false ((h.alloc _).alloc _) (by omega) h0 h1).mono ?_; rintro r w1 ⟨rfl, hb1⟩; rw [HX.out]; have Q3 := P3.below hb1 P3.lt; have Q6 := P6.below hb1 P6.lt; have H1 := F0.trans (hb1.mono F0.size); obtain ⟨c0, c1, c2, c3, c4, c5, c6⟩ := Q3.c5)
      | (go_at_call 42; refine (rRoom_no _ HXX.out).mono ?_; rintro r w2 ⟨rfl, hb2⟩; clear c0 c1 c2 c3 c4 c5 c6; have Q3' := Q3.below hb2 Q3.lt; have Q6' := Q6.below hb2 Q6.lt; have H2 := H1.trans (hb2.mono H1.size); obtain ⟨c0, c1, c2, c3, c4, c5, c6⟩ := Q3'.c5; obtain ⟨d0, d1, d2, d3, d4, d5, d6⟩ := Q6'.c5))
    obtain ⟨W, rfl, QW, hout⟩ := rfin (A0 := A) (base := base) (A := A) (c := c) (i := i) (m := m) (v := v) (l := e :: l) Q6' H2
      (by have := (h.below H2 (.inr (Nat.le_refl _))).more (B' := w2.heap.size) H2.size; simpa using this) (fun b off hA => by obtain ⟨b', off', h1, h2, _⟩ := h.2 (by omega); rw [hA] at h1; injection h1 with h1; injection h1 with h1; omega) (by simpa using hc) (.inl rfl)
    exact bodyPost_ret (results_row3 rfl _ _ _ _ _ _ rfl QW Try.underlying59 rfl (by kernel_rfl)) rfl (hout _ _ _)

end Go.Proofs.Ytfelcmppopibcaa
