/- Stack walks: Step, isolates. -/
import Derived.Test.YtfelcmppopibcaaW5
namespace Go.Proofs.Ytfelcmppopibcaa
open Go.RowKit

set_option maxRecDepth 100000 in
set_option maxHeartbeats 1000000 in
theorem step_iso21_yes {w : World} {b g : Nat} {e : Ent} {l : List Ent} {i m v : Int} (auto : Int) (h : IsStack w b g (e :: l) i m v)
   (hl : l.length ≤ 124) (h0 : 0 ≤ e.lv) (h1 : e.lv ≤ 125) (hn : nextLv true e.lv ≤ 125) (hi : i ≤ 0) (hm : m ≤ 0) (hv : 0 ≤ v) (hv2 : v ≤ 1152921504606846976) :
    Calls Try.prog 20 #[.pointer (some ⟨b, 0, none⟩), .int .u8 21, .int .i8 auto] w fun r w' => r = .returned (.tuple #[.int .i8 e.lv, .int .u8 (plainCls 21 e.ov), .bool true]) ∧
      ∃ g', (g' = g ∨ w.heap.size ≤ g') ∧ IsStack w' b g' (⟨nextLv true e.lv, 0, true⟩ :: e :: l) i m (v + 1) ∧ Frm (fun k => k = b ∨ k = g) w w' := by
  go_enter Try.func20, Try.ntmps20
  go_wp2_with (first
      | (go_at_call 34; refine (none_some h (by simp)).mono ?_; rintro r w' ⟨rfl, rfl⟩)
      | (go_at_call 37; refine (plain_any _ h).mono ?_; rintro r w0 ⟨rfl, hb0⟩; have h0' := h.below hb0)
      | (go_at_call 35; refine (put_yes _ _ _ h0' hl h0 h1 hn hi hm).mono ?_; rintro r w1 ⟨rfl, g', hg', h2, hf⟩; obtain ⟨cap, hb, hg, hlc, hcm, c0, c1, c2, c3, f1, f2, p1, p2⟩ := head_cells h2))
  go_ret3
  have hs := hb0.size
  exact ⟨rfl, g', by omega, stack_set3 h2 _, ((Frm.of_below (F := fun k => k = b ∨ k = g) hb0).trans hf (fun _ _ h => h)).set (.inl rfl) _⟩
set_option maxRecDepth 100000 in
set_option maxHeartbeats 1000000 in
theorem step_iso21_no {w : World} {b g : Nat} {e : Ent} {l : List Ent} {i m v : Int} (auto : Int) (h : IsStack w b g (e :: l) i m v)
   (h0 : 0 ≤ e.lv) (h1 : e.lv ≤ 125) (hn : 125 < nextLv true e.lv ∨ 0 < i ∨ 0 < m) (hi : 0 ≤ i) (hi2 : i ≤ 1152921504606846976) :
    Calls Try.prog 20 #[.pointer (some ⟨b, 0, none⟩), .int .u8 21, .int .i8 auto] w fun r w' => r = .returned (.tuple #[.int .i8 e.lv, .int .u8 (plainCls 21 e.ov), .bool true]) ∧
      IsStack w' b g (e :: l) (i + 1) m v ∧ Frm (fun k => k = b ∨ k = g) w w' := by
  go_enter Try.func20, Try.ntmps20
  go_wp2_with (first
      | (go_at_call 34; refine (none_some h (by simp)).mono ?_; rintro r w' ⟨rfl, rfl⟩)
      | (go_at_call 37; refine (plain_any _ h).mono ?_; rintro r w0 ⟨rfl, hb0⟩; have h0' := h.below hb0)
      | (go_at_call 35; refine (put_no _ _ _ h0' h0 h1 hn).mono ?_; rintro r w1 ⟨rfl, hb1⟩; obtain ⟨cap, hb, hg, hlc, hcm, c0, c1, c2, c3, f1, f2, p1, p2⟩ := head_cells (h0'.below hb1)))
  go_ret3
  exact ⟨rfl, stack_set1 (h0'.below hb1) _, ((Frm.of_below (F := fun k => k = b ∨ k = g) hb0).trans (Frm.of_below (F := fun _ => False) hb1) (fun _ _ h => h.elim)).set (.inl rfl) _⟩

set_option maxRecDepth 100000 in
set_option maxHeartbeats 1000000 in
theorem step_iso20_yes {w : World} {b g : Nat} {e : Ent} {l : List Ent} {i m v : Int} (auto : Int) (h : IsStack w b g (e :: l) i m v)
   (hl : l.length ≤ 124) (h0 : 0 ≤ e.lv) (h1 : e.lv ≤ 125) (hn : nextLv false e.lv ≤ 125) (hi : i ≤ 0) (hm : m ≤ 0) (hv : 0 ≤ v) (hv2 : v ≤ 1152921504606846976) :
    Calls Try.prog 20 #[.pointer (some ⟨b, 0, none⟩), .int .u8 20, .int .i8 auto] w fun r w' => r = .returned (.tuple #[.int .i8 e.lv, .int .u8 (plainCls 20 e.ov), .bool true]) ∧
      ∃ g', (g' = g ∨ w.heap.size ≤ g') ∧ IsStack w' b g' (⟨nextLv false e.lv, 0, true⟩ :: e :: l) i m (v + 1) ∧ Frm (fun k => k = b ∨ k = g) w w' := by
  go_enter Try.func20, Try.ntmps20
  go_wp2_with (first
      | (go_at_call 34; refine (none_some h (by simp)).mono ?_; rintro r w' ⟨rfl, rfl⟩)
      | (go_at_call 37; refine (plain_any _ h).mono ?_; rintro r w0 ⟨rfl, hb0⟩; have h0' := h.below hb0)
      | (go_at_call 35; refine (put_yes _ _ _ h0' hl h0 h1 hn hi hm).mono ?_; rintro r w1 ⟨rfl, g', hg', h2, hf⟩; obtain ⟨cap, hb, hg, hlc, hcm, c0, c1, c2, c3, f1, f2, p1, p2⟩ := head_cells h2))
  go_ret3
  have hs := hb0.size
  exact ⟨rfl, g', by omega, stack_set3 h2 _, ((Frm.of_below (F := fun k => k = b ∨ k = g) hb0).trans hf (fun _ _ h => h)).set (.inl rfl) _⟩
set_option maxRecDepth 100000 in
set_option maxHeartbeats 1000000 in
theorem step_iso20_no {w : World} {b g : Nat} {e : Ent} {l : List Ent} {i m v : Int} (auto : Int) (h : IsStack w b g (e :: l) i m v)
   (h0 : 0 ≤ e.lv) (h1 : e.lv ≤ 125) (hn : 125 < nextLv false e.lv ∨ 0 < i ∨ 0 < m) (hi : 0 ≤ i) (hi2 : i ≤ 1152921504606846976) :
    Calls Try.prog 20 #[.pointer (some ⟨b, 0, none⟩), .int .u8 20, .int .i8 auto] w fun r w' => r = .returned (.tuple #[.int .i8 e.lv, .int .u8 (plainCls 20 e.ov), .bool true]) ∧
      IsStack w' b g (e :: l) (i + 1) m v ∧ Frm (fun k => k = b ∨ k = g) w w' := by
  go_enter Try.func20, Try.ntmps20
  go_wp2_with (first
      | (go_at_call 34; refine (none_some h (by simp)).mono ?_; rintro r w' ⟨rfl, rfl⟩)
      | (go_at_call 37; refine (plain_any _ h).mono ?_; rintro r w0 ⟨rfl, hb0⟩; have h0' := h.below hb0)
      | (go_at_call 35; refine (put_no _ _ _ h0' h0 h1 hn).mono ?_; rintro r w1 ⟨rfl, hb1⟩; obtain ⟨cap, hb, hg, hlc, hcm, c0, c1, c2, c3, f1, f2, p1, p2⟩ := head_cells (h0'.below hb1)))
  go_ret3
  exact ⟨rfl, stack_set1 (h0'.below hb1) _, ((Frm.of_below (F := fun k => k = b ∨ k = g) hb0).trans (Frm.of_below (F := fun _ => False) hb1) (fun _ _ h => h.elim)).set (.inl rfl) _⟩

set_option maxRecDepth 100000 in
set_option maxHeartbeats 1000000 in
theorem step_iso22_yes {w : World} {b g : Nat} {e : Ent} {l : List Ent} {i m v : Int} (auto : Int) (h : IsStack w b g (e :: l) i m v)
   (hl : l.length ≤ 124) (h0 : 0 ≤ e.lv) (h1 : e.lv ≤ 125) (hn : nextLv (auto == 1) e.lv ≤ 125) (hi : i ≤ 0) (hm : m ≤ 0) (hv : 0 ≤ v) (hv2 : v ≤ 1152921504606846976) :
    Calls Try.prog 20 #[.pointer (some ⟨b, 0, none⟩), .int .u8 22, .int .i8 auto] w fun r w' => r = .returned (.tuple #[.int .i8 e.lv, .int .u8 (plainCls 22 e.ov), .bool true]) ∧
      ∃ g', (g' = g ∨ w.heap.size ≤ g') ∧ IsStack w' b g' (⟨nextLv (auto == 1) e.lv, 0, true⟩ :: e :: l) i m (v + 1) ∧ Frm (fun k => k = b ∨ k = g) w w' := by
  go_enter Try.func20, Try.ntmps20
  go_wp2_with (first
      | (go_at_call 34; refine (none_some h (by simp)).mono ?_; rintro r w' ⟨rfl, rfl⟩)
      | (go_at_call 37; refine (plain_any _ h).mono ?_; rintro r w0 ⟨rfl, hb0⟩; have h0' := h.below hb0)
      | (go_at_call 35; refine (put_yes _ _ _ h0' hl h0 h1 hn hi hm).mono ?_; rintro r w1 ⟨rfl, g', hg', h2, hf⟩; obtain ⟨cap, hb, hg, hlc, hcm, c0, c1, c2, c3, f1, f2, p1, p2⟩ := head_cells h2))
  go_ret3
  have hs := hb0.size
  exact ⟨rfl, g', by omega, stack_set3 h2 _, ((Frm.of_below (F := fun k => k = b ∨ k = g) hb0).trans hf (fun _ _ h => h)).set (.inl rfl) _⟩
set_option maxRecDepth 100000 in
set_option maxHeartbeats 1000000 in
theorem step_iso22_no {w : World} {b g : Nat} {e : Ent} {l : List Ent} {i m v : Int} (auto : Int) (h : IsStack w b g (e :: l) i m v)
   (h0 : 0 ≤ e.lv) (h1 : e.lv ≤ 125) (hn : 125 < nextLv (auto == 1) e.lv ∨ 0 < i ∨ 0 < m) (hi : 0 ≤ i) (hi2 : i ≤ 1152921504606846976) :
    Calls Try.prog 20 #[.pointer (some ⟨b, 0, none⟩), .int .u8 22, .int .i8 auto] w fun r w' => r = .returned (.tuple #[.int .i8 e.lv, .int .u8 (plainCls 22 e.ov), .bool true]) ∧
      IsStack w' b g (e :: l) (i + 1) m v ∧ Frm (fun k => k = b ∨ k = g) w w' := by
  go_enter Try.func20, Try.ntmps20
  go_wp2_with (first
      | (go_at_call 34; refine (none_some h (by simp)).mono ?_; rintro r w' ⟨rfl, rfl⟩)
      | (go_at_call 37; refine (plain_any _ h).mono ?_; rintro r w0 ⟨rfl, hb0⟩; have h0' := h.below hb0)
      | (go_at_call 35; refine (put_no _ _ _ h0' h0 h1 hn).mono ?_; rintro r w1 ⟨rfl, hb1⟩; obtain ⟨cap, hb, hg, hlc, hcm, c0, c1, c2, c3, f1, f2, p1, p2⟩ := head_cells (h0'.below hb1)))
  go_ret3
  exact ⟨rfl, stack_set1 (h0'.below hb1) _, ((Frm.of_below (F := fun k => k = b ∨ k = g) hb0).trans (Frm.of_below (F := fun _ => False) hb1) (fun _ _ h => h.elim)).set (.inl rfl) _⟩

end Go.Proofs.Ytfelcmppopibcaa
