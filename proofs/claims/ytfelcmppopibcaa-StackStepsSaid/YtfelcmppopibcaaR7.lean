/- The reference's stack: Step at the end of an isolate. -/
import Derived.Test.YtfelcmppopibcaaR6
namespace Go.Proofs.Ytfelcmppopibcaa
open Go.RowKit

theorem rLast_n {w : World} {B : Nat} {A : Option Addr} {e : Ent} {l : List Ent} {n c : Nat} {base i m v : Int} (hn : n = l.length + 1) (h : Reads w B 3 A n (entCells (e :: l))) (hs : n ≤ 126) :
    Calls Try.prog 45 #[refV base A n c i m v] w fun r w' => r = .returned (.agg #[.int .i8 e.lv, .int .u8 e.ov, .bool e.iso]) ∧ Below w.heap.size w w' := by
  subst hn; exact rLast_any h hs

set_option maxRecDepth 100000 in
set_option maxHeartbeats 1000000 in
theorem rStep_pdi_val {w : World} {A : Option Addr} {e : Ent} {l : List Ent} {n c : Nat} {base i m v : Int} (auto : Int) (hn : n = l.length + 1) (h : Reads w w.heap.size 3 A n (entCells (e :: l))) (hc : n ≤ c) (hl : l.length + 1 ≤ 126) (hi : i ≤ 0) (hv : 0 < v) (hv2 : v ≤ 1152921504606846976)
    (hx : ∃ x ∈ e :: l, x.iso = true) {e' : Ent} {l' : List Ent} (hp : popTo (e :: l) = e' :: l') :
    Calls Try.prog 27 #[refV base A n c i m v, .int .u8 23, .int .i8 auto] w (RefOut w A base (e' :: l') i 0 (v - 1) e'.lv (plainCls 23 e'.ov) true) := by
  subst hn
  have hA0 : ∀ b off, A = some ⟨b, off, none⟩ → b ≠ w.heap.size + 1 := fun b off hA => by obtain ⟨b', off', h1, h2, _⟩ := h.2 (by omega); rw [hA] at h1; injection h1 with h1; injection h1 with h1; omega
  obtain ⟨F0, P3, P6⟩ := rW_facts w base A (l.length + 1) c i 0 v
  have hx := Lib.hid hx
  have hp := Lib.hid hp
  go_enter Try.func27, Try.ntmps27
  go_wp2_with fail
  go_loopg [] l.length (fun k wr => ∃ x l1, popTo (x :: l1) = popTo (e :: l) ∧ (∃ y ∈ x :: l1, y.iso = true) ∧ l1.length = k ∧ l1.length + 1 ≤ 126 ∧ l1.length + 1 ≤ c ∧ Reads wr w.heap.size 3 A (l1.length + 1) (entCells (x :: l1)) ∧
    Blk wr w.heap.size 59 #[.int .i8 base, .slice A (l1.length + 1) c, .int .i64 i, .int .i64 0, .int .i64 v] ∧ Blk wr (w.heap.size + 1) 59 #[.int .i8 0, .slice none 0 0, .int .i64 0, .int .i64 0, .int .i64 0] ∧ Below w.heap.size w wr)
  case atStart => exact ⟨e, l, rfl, hx.out, rfl, hl, hc, (h.alloc _).alloc _, P3, P6, F0⟩
  case round =>
    obtain ⟨x, l1, e1, e2, e3, hl1, hc1, hr, R3, R6, H0⟩ := hrel
    have E1 := Lib.hid e1
    have E3 := Lib.hid e3
    clear e1 e3
    obtain ⟨c0, c1, c2, c3, c4, c5, c6⟩ := R3.c5
    by_cases he : x.iso = true
    · have hpx : l1 = e' :: l' := by have := E1.out; rw [hp.out] at this; simpa [popTo, he] using this
      have HP := Lib.hid hpx
      clear hpx
      go_wp2_with (first
        | (go_at_call 45; refine (rLast_any hr (by omega)).mono ?_; rintro r w0 ⟨rfl, hb0⟩; have S3 := R3.below hb0 R3.lt; have S6 := R6.below hb0 R6.lt; have H1 := H0.trans (hb0.mono H0.size); clear c0 c1 c2 c3 c4 c5 c6; obtain ⟨c0, c1, c2, c3, c4, c5, c6⟩ := S3.c5)
        | fail)
      clear c0 c1 c2 c3 c4 c5 c6
      have HP := HP.out
      subst HP
      simp only [List.length_cons] at hr S3 hl1 hc1 ⊢
      have F5 := ((Frm.refl (fun k => k = w.heap.size) w0).set (j := 1) rfl (.slice A (l'.length + 1) c)).set (j := 4) rfl (.int .i64 (v - 1))
      have H2 := H1.trans (F5.below H1.size (fun k hk h => by omega))
      have hr2 := (reads_off (hr.below hb0 (.inr (Nat.le_refl _)))).frm F5 (fun k hk _ h => by omega)
      have T3 := (S3.set_ 1 (.slice A (l'.length + 1) c)).set_ 4 (.int .i64 (v - 1))
      have T6 := (S6.far (p := ⟨w.heap.size, 1, none⟩) (by simp) (.slice A (l'.length + 1) c)).far (p := ⟨w.heap.size, 4, none⟩) (by simp) (.int .i64 (v - 1))
      simp only [List.setIfInBounds_toArray, List.set_cons_succ, List.set_cons_zero] at T3
      simp only [List.length_cons] at hr2
      clear hr S3 S6
      obtain ⟨c0, c1, c2, c3, c4, c5, c6⟩ := T3.c5
      refine (rPlain_any _ hr2 (by omega)).mono ?_
      rintro r w4 ⟨rfl, hb4⟩
      have S3 := T3.below hb4 T3.lt
      have S6 := T6.below hb4 T6.lt
      have H4 := H2.trans (hb4.mono H2.size)
      clear c0 c1 c2 c3 c4 c5 c6
      obtain ⟨c0, c1, c2, c3, c4, c5, c6⟩ := S3.c5
      obtain ⟨d0, d1, d2, d3, d4, d5, d6⟩ := S6.c5
      go_wp2
      obtain ⟨W, rfl, QW, hout⟩ := rfin (A0 := A) (base := base) (A := A) (c := c) (i := i) (m := 0) (v := v - 1) (l := e' :: l') S6 H4
        (by have := (hr2.below hb4 (.inr (Nat.le_refl _))).more (B' := w4.heap.size) H4.size; simpa using this) hA0 (by simp; omega) (.inl rfl)
      exact bodyPost_ret (results_row3 rfl _ _ _ _ _ _ rfl QW Try.underlying59 rfl (by kernel_rfl)) rfl (hout _ _ _)
    · have he : x.iso = false := by simpa using he
      rcases l1 with _ | ⟨x', l1⟩
      · exact absurd e2 (by simp [he])
      · simp only [List.length_cons] at R3 hl1 hc1 hr c1
        have e2' : ∃ y ∈ x' :: l1, y.iso = true := by
          obtain ⟨y, hy, hi⟩ := e2
          rcases List.mem_cons.1 hy with rfl | hy
          · rw [he] at hi; cases hi
          · exact ⟨y, hy, hi⟩
        clear e2
        go_wp2_with (go_at_call 45; refine (rLast_n (l := x' :: l1) (n := l1.length + 1 + 1) (by simp) hr (by omega)).mono ?_; rintro r w0 ⟨rfl, hb0⟩; have S3 := R3.below hb0 R3.lt; have S6 := R6.below hb0 R6.lt; have H1 := H0.trans (hb0.mono H0.size); clear c0 c1 c2 c3 c4 c5 c6; obtain ⟨c0, c1, c2, c3, c4, c5, c6⟩ := S3.c5)
        go_roundg l1.length
        case rel =>
          have F5 := (Frm.refl (fun k => k = w.heap.size) w0).set (j := 1) rfl (.slice A (l1.length + 1) c)
          refine ⟨x', l1, ?_, e2', rfl, by omega, by omega, ?_, ?_, ?_, ?_⟩
          · rw [← E1.out]; simp [popTo, he]
          · exact (reads_off (hr.below hb0 (.inr (Nat.le_refl _)))).frm F5 (fun k hk _ h => by omega)
          · exact S3.set_ 1 (.slice A (l1.length + 1) c)
          · exact S6.far (p := ⟨w.heap.size, 1, none⟩) (by simp) _
          · exact H1.trans (F5.below H1.size (fun k hk h => by omega))
        case measure => rw [← E3.out]; simp
end Go.Proofs.Ytfelcmppopibcaa
