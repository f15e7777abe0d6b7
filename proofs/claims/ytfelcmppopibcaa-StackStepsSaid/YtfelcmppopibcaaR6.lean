/- The reference's stack: Step, the rest. -/
import Derived.Test.YtfelcmppopibcaaR3
import Derived.Test.YtfelcmppopibcaaR4
namespace Go.Proofs.Ytfelcmppopibcaa
open Go.RowKit

/-- The end where no call has come between: the result's box lies last, as it is handed back. -/
theorem rfin0 {w w3 : World} {base : Int} {A : Option Addr} {l : List Ent} {c : Nat} {i m v : Int} (hw : w3.heap.size = w.heap.size + 1) (hb : Below w.heap.size w w3) (hr : Reads w w.heap.size 3 A l.length (entCells l)) (hc : l.length ≤ c) :
    Blk (w3.alloc (.cells #[.int .i8 base, .slice A l.length c, .int .i64 i, .int .i64 m, .int .i64 v] 59)) (w.heap.size + 1) 59 #[.int .i8 base, .slice A l.length c, .int .i64 i, .int .i64 m, .int .i64 v] ∧
      ∀ lv cl k, RefOut w A base l i m v lv cl k (.returned (.tuple #[refV base A l.length c i m v, .int .i8 lv, .int .u8 cl, .bool k])) (w3.alloc (.cells #[.int .i8 base, .slice A l.length c, .int .i64 i, .int .i64 m, .int .i64 v] 59)) := by
  have h := Blk.new w3 59 #[.int .i8 base, .slice A l.length c, .int .i64 i, .int .i64 m, .int .i64 v]
  rw [hw] at h
  refine ⟨h, fun lv cl k => ⟨A, c, rfl, ?_, hc, hb.alloc hb.size _, .inl rfl⟩⟩
  exact ((hr.below hb (.inr (Nat.le_refl _))).alloc _).more (by simp; omega)
theorem RefOut.drew {w : World} {A0 : Option Addr} {base : Int} {l : List Ent} {i m v lv cl : Int} {k : Bool} {r : Ending} {w' : World} (h : RefOut w A0 base l i m v lv cl k r w') : RefOut w A0 base l i m v lv cl k r w'.drew := by
  obtain ⟨A, c, h1, h2, h3, h4, h5⟩ := h
  exact ⟨A, c, h1, h2, h3, h4.drew, h5⟩
theorem RefOut.alloc {w : World} {A0 : Option Addr} {base : Int} {l : List Ent} {i m v lv cl : Int} {k : Bool} {r : Ending} {w' : World} (h : RefOut w A0 base l i m v lv cl k r w') (o : Obj) : RefOut w A0 base l i m v lv cl k r (w'.alloc o) := by
  obtain ⟨A, c, h1, h2, h3, h4, h5⟩ := h
  exact ⟨A, c, h1, (h2.alloc o).more (by simp), h3, h4.alloc h4.size o, h5⟩
theorem box_below (w : World) (o : Obj) : Below w.heap.size w (w.alloc o) := (Below.refl _ _).alloc (Nat.le_refl _) _
/-- A shorter reading. -/
theorem reads_off {w : World} {B : Nat} {A : Option Addr} {e : Ent} {l : List Ent} (h : Reads w B 3 A (l.length + 1) (entCells (e :: l))) : Reads w B 3 A l.length (entCells l) := by
  refine ⟨entCells_length l, fun hn => ?_⟩
  obtain ⟨b, off, hA, hb, hs, hc⟩ := h.2 (by omega)
  refine ⟨b, off, hA, hb, hs, fun j u hu => hc j u ?_⟩
  rw [entCells_cons, List.getElem?_append_left ?_]
  · exact hu
  · rcases Nat.lt_or_ge j (entCells l).length with h1 | h1
    · exact h1
    · rw [List.getElem?_eq_none h1] at hu; cases hu

set_option maxRecDepth 100000 in
set_option maxHeartbeats 1000000 in
theorem rStep_bn {w : World} {A : Option Addr} {e : Ent} {l : List Ent} {n c : Nat} {base i m v : Int} (auto : Int) (hn : n = l.length + 1) (h : Reads w w.heap.size 3 A n (entCells (e :: l))) (hc : n ≤ c) (_hl : l.length + 1 ≤ 126) :
    Calls Try.prog 27 #[refV base A n c i m v, .int .u8 10, .int .i8 auto] w (RefOut w A base (e :: l) i m v (-1) 10 false) := by
  subst hn
  go_enter Try.func27, Try.ntmps27
  go_wp2
  obtain ⟨QW, hout⟩ := rfin0 (base := base) (c := c) (i := i) (m := m) (v := v) (l := e :: l) (by simp) (box_below w (.cells #[.int .i8 base, .slice A (l.length + 1) c, .int .i64 i, .int .i64 m, .int .i64 v] 59)) h hc
  exact bodyPost_ret (results_row3 rfl _ _ _ _ _ _ rfl QW Try.underlying59 rfl (by kernel_rfl)) rfl (hout _ _ _)

set_option maxRecDepth 100000 in
set_option maxHeartbeats 1000000 in
theorem rStep_pdf_iso {w : World} {A : Option Addr} {e : Ent} {l : List Ent} {n c : Nat} {base i m v : Int} (auto : Int) (hn : n = l.length + 1) (h : Reads w w.heap.size 3 A n (entCells (e :: l))) (hc : n ≤ c) (_hl : l.length + 1 ≤ 126) (hi : 0 < i) :
    Calls Try.prog 27 #[refV base A n c i m v, .int .u8 19, .int .i8 auto] w (RefOut w A base (e :: l) i m v (-1) 19 false) := by
  subst hn
  go_enter Try.func27, Try.ntmps27
  go_wp2
  obtain ⟨QW, hout⟩ := rfin0 (base := base) (c := c) (i := i) (m := m) (v := v) (l := e :: l) (by simp) (box_below w (.cells #[.int .i8 base, .slice A (l.length + 1) c, .int .i64 i, .int .i64 m, .int .i64 v] 59)) h hc
  exact bodyPost_ret (results_row3 rfl _ _ _ _ _ _ rfl QW Try.underlying59 rfl (by kernel_rfl)) rfl (hout _ _ _)

set_option maxRecDepth 100000 in
set_option maxHeartbeats 1000000 in
theorem rStep_pdf_emb {w : World} {A : Option Addr} {e : Ent} {l : List Ent} {n c : Nat} {base i m v : Int} (auto : Int) (hn : n = l.length + 1) (h : Reads w w.heap.size 3 A n (entCells (e :: l))) (hc : n ≤ c) (_hl : l.length + 1 ≤ 126) (hi : i ≤ 0) (hm : 0 < m) (hm2 : m ≤ 1152921504606846976) :
    Calls Try.prog 27 #[refV base A n c i m v, .int .u8 19, .int .i8 auto] w (RefOut w A base (e :: l) i (m - 1) v (-1) 19 false) := by
  subst hn
  go_enter Try.func27, Try.ntmps27
  go_wp2
  obtain ⟨QW, hout⟩ := rfin0 (base := base) (c := c) (i := i) (m := m - 1) (v := v) (l := e :: l) (by simp) (box_below w (.cells #[.int .i8 base, .slice A (l.length + 1) c, .int .i64 i, .int .i64 (m - 1), .int .i64 v] 59)) h hc
  exact bodyPost_ret (results_row3 rfl _ _ _ _ _ _ rfl QW Try.underlying59 rfl (by kernel_rfl)) rfl (hout _ _ _)

set_option maxRecDepth 100000 in
set_option maxHeartbeats 1000000 in
theorem rStep_pdf_keep {w : World} {A : Option Addr} {e : Ent} {l : List Ent} {n c : Nat} {base i m v : Int} (auto : Int) (hn : n = l.length + 1) (h : Reads w w.heap.size 3 A n (entCells (e :: l))) (hc : n ≤ c) (hl : l.length + 1 ≤ 126) (hi : i ≤ 0) (hm : m ≤ 0) (hk : e.iso = true ∨ l = []) :
    Calls Try.prog 27 #[refV base A n c i m v, .int .u8 19, .int .i8 auto] w (RefOut w A base (e :: l) i m v (-1) 19 false) := by
  subst hn
  obtain ⟨F0, P3, P6⟩ := rW_facts w base A (l.length + 1) c i m v
  have hA0 : ∀ b off, A = some ⟨b, off, none⟩ → b ≠ w.heap.size + 1 := fun b off hA => by obtain ⟨b', off', h1, h2, _⟩ := h.2 (by omega); rw [hA] at h1; injection h1 with h1; injection h1 with h1; omega
  by_cases he : e.iso = true
  · clear hk
    go_enter Try.func27, Try.ntmps27
    go_wp2_with (go_at_call 45; refine (rLast_any ((h.alloc _).alloc _) (by omega)).mono ?_; rintro r w0 ⟨rfl, hb0⟩; have R3 := P3.below hb0 P3.lt; have R6 := P6.below hb0 P6.lt; have H0 := F0.trans (hb0.mono F0.size); obtain ⟨c0, c1, c2, c3, c4, c5, c6⟩ := R3.c5; obtain ⟨d0, d1, d2, d3, d4, d5, d6⟩ := R6.c5)
    obtain ⟨W, rfl, QW, hout⟩ := rfin (A0 := A) (base := base) (A := A) (c := c) (i := i) (m := m) (v := v) (l := e :: l) R6 H0
      (by have := (h.below H0 (.inr (Nat.le_refl _))).more (B' := w0.heap.size) H0.size; simpa using this) hA0 (by simpa using hc) (.inl rfl)
    exact bodyPost_ret (results_row3 rfl _ _ _ _ _ _ rfl QW Try.underlying59 rfl (by kernel_rfl)) rfl (hout _ _ _)
  · have hl0 : l = [] := hk.resolve_left he
    have he : e.iso = false := by simpa using he
    subst hl0
    clear hk
    simp only [List.length_nil, Nat.zero_add] at *
    go_enter Try.func27, Try.ntmps27
    go_wp2_with (go_at_call 45; refine (rLast_any (l := []) ((h.alloc _).alloc _) (by simp)).mono ?_; rintro r w0 ⟨rfl, hb0⟩; have R3 := P3.below hb0 P3.lt; have R6 := P6.below hb0 P6.lt; have H0 := F0.trans (hb0.mono F0.size); obtain ⟨c0, c1, c2, c3, c4, c5, c6⟩ := R3.c5; obtain ⟨d0, d1, d2, d3, d4, d5, d6⟩ := R6.c5)
    obtain ⟨W, rfl, QW, hout⟩ := rfin (A0 := A) (base := base) (A := A) (c := c) (i := i) (m := m) (v := v) (l := [e]) R6 H0
      (by have := (h.below H0 (.inr (Nat.le_refl _))).more (B' := w0.heap.size) H0.size; simpa using this) hA0 (by simpa using hc) (.inl rfl)
    exact bodyPost_ret (results_row3 rfl _ _ _ _ _ _ rfl QW Try.underlying59 rfl (by kernel_rfl)) rfl (hout _ _ _)

set_option maxRecDepth 100000 in
set_option maxHeartbeats 1000000 in
theorem rStep_pdf_off {w : World} {A : Option Addr} {e : Ent} {l : List Ent} {n c : Nat} {base i m v : Int} (auto : Int) (hn : n = l.length + 1) (h : Reads w w.heap.size 3 A n (entCells (e :: l))) (hc : n ≤ c) (hl : l.length + 1 ≤ 126) (hi : i ≤ 0) (hm : m ≤ 0) (he : e.iso = false) (hl2 : 0 < l.length) :
    Calls Try.prog 27 #[refV base A n c i m v, .int .u8 19, .int .i8 auto] w (RefOut w A base l i m v (-1) 19 false) := by
  subst hn
  obtain ⟨F0, P3, P6⟩ := rW_facts w base A (l.length + 1) c i m v
  have hA0 : ∀ b off, A = some ⟨b, off, none⟩ → b ≠ w.heap.size + 1 := fun b off hA => by obtain ⟨b', off', h1, h2, _⟩ := h.2 (by omega); rw [hA] at h1; injection h1 with h1; injection h1 with h1; omega
  go_enter Try.func27, Try.ntmps27
  go_wp2_with (go_at_call 45; refine (rLast_any ((h.alloc _).alloc _) (by omega)).mono ?_; rintro r w0 ⟨rfl, hb0⟩; have R3 := P3.below hb0 P3.lt; have R6 := P6.below hb0 P6.lt; have H0 := F0.trans (hb0.mono F0.size); obtain ⟨c0, c1, c2, c3, c4, c5, c6⟩ := R3.c5; obtain ⟨d0, d1, d2, d3, d4, d5, d6⟩ := R6.c5)
  have F5 := (Frm.refl (fun k => k = w.heap.size) w0).set (j := 1) rfl (.slice A l.length c)
  obtain ⟨W, rfl, QW, hout⟩ := rfin (A0 := A) (base := base) (A := A) (c := c) (i := i) (m := m) (v := v) (l := l) (R6.far (p := ⟨w.heap.size, 1, none⟩) (by simp) (.slice A l.length c)) (H0.trans (F5.below H0.size (fun k hk h => by omega)))
      (by have := ((reads_off (h.below H0 (.inr (Nat.le_refl _)))).frm F5 (fun k hk _ h => by omega)).more (B' := w0.heap.size) H0.size; simpa using this) hA0 (by omega) (.inl rfl)
  exact bodyPost_ret (results_row3 rfl _ _ _ _ _ _ rfl QW Try.underlying59 rfl (by kernel_rfl)) rfl (hout _ _ _)

set_option maxRecDepth 100000 in
set_option maxHeartbeats 1000000 in
theorem rStep_oth {w : World} {A : Option Addr} {e : Ent} {l : List Ent} {n c : Nat} {base i m v : Int} (auto : Int) (hn : n = l.length + 1) (h : Reads w w.heap.size 3 A n (entCells (e :: l))) (hc : n ≤ c) (hl : l.length + 1 ≤ 126) (cl : Int)
    (n15 : cl ≠ 15) (n16 : cl ≠ 16) (n17 : cl ≠ 17) (n18 : cl ≠ 18) (n19 : cl ≠ 19) (n20 : cl ≠ 20) (n21 : cl ≠ 21) (n22 : cl ≠ 22) (n23 : cl ≠ 23) (n10 : cl ≠ 10) (n11 : cl ≠ 11) :
    Calls Try.prog 27 #[refV base A n c i m v, .int .u8 cl, .int .i8 auto] w (RefOut w A base (e :: l) i m v e.lv (plainCls cl e.ov) true) := by
  subst hn
  obtain ⟨F0, P3, P6⟩ := rW_facts w base A (l.length + 1) c i m v
  have hA0 : ∀ b off, A = some ⟨b, off, none⟩ → b ≠ w.heap.size + 1 := fun b off hA => by obtain ⟨b', off', h1, h2, _⟩ := h.2 (by omega); rw [hA] at h1; injection h1 with h1; injection h1 with h1; omega
  go_enter Try.func27, Try.ntmps27
  go_wp2_with (go_at_call 44; refine (rPlain_any _ ((h.alloc _).alloc _) (by omega)).mono ?_; rintro r w0 ⟨rfl, hb0⟩; have R3 := P3.below hb0 P3.lt; have R6 := P6.below hb0 P6.lt; have H0 := F0.trans (hb0.mono F0.size); obtain ⟨c0, c1, c2, c3, c4, c5, c6⟩ := R3.c5; obtain ⟨d0, d1, d2, d3, d4, d5, d6⟩ := R6.c5)
  obtain ⟨W, rfl, QW, hout⟩ := rfin (A0 := A) (base := base) (A := A) (c := c) (i := i) (m := m) (v := v) (l := e :: l) R6 H0
      (by have := (h.below H0 (.inr (Nat.le_refl _))).more (B' := w0.heap.size) H0.size; simpa using this) hA0 (by simpa using hc) (.inl rfl)
  exact bodyPost_ret (results_row3 rfl _ _ _ _ _ _ rfl QW Try.underlying59 rfl (by kernel_rfl)) rfl (hout _ _ _)

set_option maxRecDepth 100000 in
set_option maxHeartbeats 1000000 in
theorem rStep_pdi_not {w : World} {A : Option Addr} {e : Ent} {l : List Ent} {n c : Nat} {base i m v : Int} (auto : Int) (hn : n = l.length + 1) (h : Reads w w.heap.size 3 A n (entCells (e :: l))) (hc : n ≤ c) (hl : l.length + 1 ≤ 126) (hi : i ≤ 0) (hv : v ≤ 0) :
    Calls Try.prog 27 #[refV base A n c i m v, .int .u8 23, .int .i8 auto] w (RefOut w A base (e :: l) i m v e.lv (plainCls 23 e.ov) true) := by
  subst hn
  obtain ⟨F0, P3, P6⟩ := rW_facts w base A (l.length + 1) c i m v
  have hA0 : ∀ b off, A = some ⟨b, off, none⟩ → b ≠ w.heap.size + 1 := fun b off hA => by obtain ⟨b', off', h1, h2, _⟩ := h.2 (by omega); rw [hA] at h1; injection h1 with h1; injection h1 with h1; omega
  go_enter Try.func27, Try.ntmps27
  go_wp2_with (go_at_call 44; refine (rPlain_any _ ((h.alloc _).alloc _) (by omega)).mono ?_; rintro r w0 ⟨rfl, hb0⟩; have R3 := P3.below hb0 P3.lt; have R6 := P6.below hb0 P6.lt; have H0 := F0.trans (hb0.mono F0.size); obtain ⟨c0, c1, c2, c3, c4, c5, c6⟩ := R3.c5; obtain ⟨d0, d1, d2, d3, d4, d5, d6⟩ := R6.c5)
  obtain ⟨W, rfl, QW, hout⟩ := rfin (A0 := A) (base := base) (A := A) (c := c) (i := i) (m := m) (v := v) (l := e :: l) R6 H0
      (by have := (h.below H0 (.inr (Nat.le_refl _))).more (B' := w0.heap.size) H0.size; simpa using this) hA0 (by simpa using hc) (.inl rfl)
  exact bodyPost_ret (results_row3 rfl _ _ _ _ _ _ rfl QW Try.underlying59 rfl (by kernel_rfl)) rfl (hout _ _ _)

set_option maxRecDepth 100000 in
set_option maxHeartbeats 1000000 in
theorem rStep_pdi_iso {w : World} {A : Option Addr} {e : Ent} {l : List Ent} {n c : Nat} {base i m v : Int} (auto : Int) (hn : n = l.length + 1) (h : Reads w w.heap.size 3 A n (entCells (e :: l))) (hc : n ≤ c) (hl : l.length + 1 ≤ 126) (hi : 0 < i) (hi2 : i ≤ 1152921504606846976) :
    Calls Try.prog 27 #[refV base A n c i m v, .int .u8 23, .int .i8 auto] w (RefOut w A base (e :: l) (i - 1) m v e.lv (plainCls 23 e.ov) true) := by
  subst hn
  obtain ⟨F0, P3, P6⟩ := rW_facts w base A (l.length + 1) c (i - 1) m v
  have hA0 : ∀ b off, A = some ⟨b, off, none⟩ → b ≠ w.heap.size + 1 := fun b off hA => by obtain ⟨b', off', h1, h2, _⟩ := h.2 (by omega); rw [hA] at h1; injection h1 with h1; injection h1 with h1; omega
  go_enter Try.func27, Try.ntmps27
  go_wp2_with (go_at_call 44; refine (rPlain_any _ ((h.alloc _).alloc _) (by omega)).mono ?_; rintro r w0 ⟨rfl, hb0⟩; have R3 := P3.below hb0 P3.lt; have R6 := P6.below hb0 P6.lt; have H0 := F0.trans (hb0.mono F0.size); obtain ⟨c0, c1, c2, c3, c4, c5, c6⟩ := R3.c5; obtain ⟨d0, d1, d2, d3, d4, d5, d6⟩ := R6.c5)
  obtain ⟨W, rfl, QW, hout⟩ := rfin (A0 := A) (base := base) (A := A) (c := c) (i := i - 1) (m := m) (v := v) (l := e :: l) R6 H0
      (by have := (h.below H0 (.inr (Nat.le_refl _))).more (B' := w0.heap.size) H0.size; simpa using this) hA0 (by simpa using hc) (.inl rfl)
  exact bodyPost_ret (results_row3 rfl _ _ _ _ _ _ rfl QW Try.underlying59 rfl (by kernel_rfl)) rfl (hout _ _ _)

set_option maxRecDepth 100000 in
set_option maxHeartbeats 1000000 in
theorem rStep_b {w : World} {A : Option Addr} {n c : Nat} {base i m v : Int} (auto : Int) (hb : base = 0 ∨ base = 1) :
    Calls Try.prog 27 #[refV base A n c i m v, .int .u8 11, .int .i8 auto] w (RefOut w A base [⟨base, 0, false⟩] 0 0 0 base 11 true) := by
  obtain ⟨F0, P3, P6⟩ := rW_facts w base A n c i m v
  go_enter Try.func27, Try.ntmps27
  go_wp2_with (go_at_call 25; refine (rNew_ok _ base hb).mono ?_; rintro r w0 ⟨g, rfl, hr, hg0, hg1, hb0⟩; have R3 := P3.below hb0 P3.lt; have R6 := P6.below hb0 P6.lt; have H0 := F0.trans (hb0.mono F0.size); obtain ⟨c0, c1, c2, c3, c4, c5, c6⟩ := R3.c5; obtain ⟨d0, d1, d2, d3, d4, d5, d6⟩ := R6.c5)
  go_region
  all_goals go_wp2
  obtain ⟨W, rfl, QW, hout⟩ := rfin (A0 := A) (base := base) (A := some ⟨g, 0, none⟩) (c := 1) (i := 0) (m := 0) (v := 0) (l := [⟨base, 0, false⟩]) R6 H0 hr (fun b off hA => by injection hA with hA; injection hA with hA; simp at hg0; omega) (by simp) (.inr ⟨g, rfl, by simp at hg0; omega⟩)
  exact bodyPost_ret (results_row3 rfl _ _ _ _ _ _ rfl (QW.alloc _).drew Try.underlying59 rfl (by kernel_rfl)) rfl (RefOut.drew (RefOut.alloc (hout _ _ _) _))

end Go.Proofs.Ytfelcmppopibcaa
