/- Stack walks: Step. -/
import Derived.Test.YtfelcmppopibcaaW4
namespace Go.Proofs.Ytfelcmppopibcaa
open Go.RowKit


set_option maxRecDepth 100000 in
set_option maxHeartbeats 1000000 in
theorem step_emb17_yes {w : World} {b g : Nat} {e : Ent} {l : List Ent} {i m v : Int} (auto : Int) (h : IsStack w b g (e :: l) i m v)
   (hl : l.length ≤ 124) (h0 : 0 ≤ e.lv) (h1 : e.lv ≤ 125) (hn : nextLv true e.lv ≤ 125) (hi : i ≤ 0) (hm : m ≤ 0) :
    Calls Try.prog 20 #[.pointer (some ⟨b, 0, none⟩), .int .u8 17, .int .i8 auto] w fun r w' => r = .returned (.tuple #[.int .i8 (-1), .int .u8 17, .bool false]) ∧
      ∃ g', (g' = g ∨ w.heap.size ≤ g') ∧ IsStack w' b g' (⟨nextLv true e.lv, 0, false⟩ :: e :: l) i m v ∧ Frm (fun k => k = b ∨ k = g) w w' := by
  go_enter Try.func20, Try.ntmps20
  go_wp2_with (first
    | (go_at_call 34; refine (none_some h (by simp)).mono ?_; rintro r w' ⟨rfl, rfl⟩)
    | (go_at_call 36; refine (turned_any _ _).mono ?_; rintro r w' ⟨rfl, rfl⟩)
    | (go_at_call 35; refine (put_yes _ _ _ h hl h0 h1 hn hi hm).mono ?_; rintro r w1 ⟨rfl, g', hg', h2, hf⟩))
  go_ret3
  exact ⟨rfl, g', hg', h2, hf⟩
set_option maxRecDepth 100000 in
set_option maxHeartbeats 1000000 in
theorem step_emb17_no {w : World} {b g : Nat} {e : Ent} {l : List Ent} {i m v : Int} (auto : Int) (h : IsStack w b g (e :: l) i m v)
   (h0 : 0 ≤ e.lv) (h1 : e.lv ≤ 125) (hn : 125 < nextLv true e.lv ∨ 0 < i ∨ 0 < m) (hi : 0 ≤ i) (hm : 0 ≤ m) (hm2 : m ≤ 1152921504606846976) :
    Calls Try.prog 20 #[.pointer (some ⟨b, 0, none⟩), .int .u8 17, .int .i8 auto] w fun r w' => r = .returned (.tuple #[.int .i8 (-1), .int .u8 17, .bool false]) ∧
      IsStack w' b g (e :: l) i (if i = 0 then m + 1 else m) v ∧ Frm (fun k => k = b ∨ k = g) w w' := by
  by_cases hi0 : i = 0
  · subst hi0
    rw [if_pos rfl]
    go_enter Try.func20, Try.ntmps20
    go_wp2_with (first
      | (go_at_call 34; refine (none_some h (by simp)).mono ?_; rintro r w' ⟨rfl, rfl⟩)
      | (go_at_call 36; refine (turned_any _ _).mono ?_; rintro r w' ⟨rfl, rfl⟩)
      | (go_at_call 35; refine (put_no _ _ _ h h0 h1 hn).mono ?_; rintro r w1 ⟨rfl, hb1⟩; obtain ⟨cap, hb, hg, hlc, hcm, c0, c1, c2, c3, f1, f2, p1, p2⟩ := head_cells (h.below hb1)))
    go_ret3
    exact ⟨rfl, stack_set2 (h.below hb1) _, (Frm.of_below (F := fun k => k = b ∨ k = g) hb1).set (.inl rfl) _⟩
  · rw [if_neg hi0]
    have hi1 : (i == 0) = false := beq_eq_false_iff_ne.2 hi0
    go_enter Try.func20, Try.ntmps20
    go_wp2_with (first
      | (go_at_call 34; refine (none_some h (by simp)).mono ?_; rintro r w' ⟨rfl, rfl⟩)
      | (go_at_call 36; refine (turned_any _ _).mono ?_; rintro r w' ⟨rfl, rfl⟩)
      | (go_at_call 35; refine (put_no _ _ _ h h0 h1 hn).mono ?_; rintro r w1 ⟨rfl, hb1⟩; obtain ⟨cap, hb, hg, hlc, hcm, c0, c1, c2, c3, f1, f2, p1, p2⟩ := head_cells (h.below hb1)))
    go_ret3
    exact ⟨rfl, h.below hb1, Frm.of_below hb1⟩

set_option maxRecDepth 100000 in
set_option maxHeartbeats 1000000 in
theorem step_emb18_yes {w : World} {b g : Nat} {e : Ent} {l : List Ent} {i m v : Int} (auto : Int) (h : IsStack w b g (e :: l) i m v)
   (hl : l.length ≤ 124) (h0 : 0 ≤ e.lv) (h1 : e.lv ≤ 125) (hn : nextLv true e.lv ≤ 125) (hi : i ≤ 0) (hm : m ≤ 0) :
    Calls Try.prog 20 #[.pointer (some ⟨b, 0, none⟩), .int .u8 18, .int .i8 auto] w fun r w' => r = .returned (.tuple #[.int .i8 (-1), .int .u8 18, .bool false]) ∧
      ∃ g', (g' = g ∨ w.heap.size ≤ g') ∧ IsStack w' b g' (⟨nextLv true e.lv, 2, false⟩ :: e :: l) i m v ∧ Frm (fun k => k = b ∨ k = g) w w' := by
  go_enter Try.func20, Try.ntmps20
  go_wp2_with (first
    | (go_at_call 34; refine (none_some h (by simp)).mono ?_; rintro r w' ⟨rfl, rfl⟩)
    | (go_at_call 36; refine (turned_any _ _).mono ?_; rintro r w' ⟨rfl, rfl⟩)
    | (go_at_call 35; refine (put_yes _ _ _ h hl h0 h1 hn hi hm).mono ?_; rintro r w1 ⟨rfl, g', hg', h2, hf⟩))
  go_ret3
  exact ⟨rfl, g', hg', h2, hf⟩
set_option maxRecDepth 100000 in
set_option maxHeartbeats 1000000 in
theorem step_emb18_no {w : World} {b g : Nat} {e : Ent} {l : List Ent} {i m v : Int} (auto : Int) (h : IsStack w b g (e :: l) i m v)
   (h0 : 0 ≤ e.lv) (h1 : e.lv ≤ 125) (hn : 125 < nextLv true e.lv ∨ 0 < i ∨ 0 < m) (hi : 0 ≤ i) (hm : 0 ≤ m) (hm2 : m ≤ 1152921504606846976) :
    Calls Try.prog 20 #[.pointer (some ⟨b, 0, none⟩), .int .u8 18, .int .i8 auto] w fun r w' => r = .returned (.tuple #[.int .i8 (-1), .int .u8 18, .bool false]) ∧
      IsStack w' b g (e :: l) i (if i = 0 then m + 1 else m) v ∧ Frm (fun k => k = b ∨ k = g) w w' := by
  by_cases hi0 : i = 0
  · subst hi0
    rw [if_pos rfl]
    go_enter Try.func20, Try.ntmps20
    go_wp2_with (first
      | (go_at_call 34; refine (none_some h (by simp)).mono ?_; rintro r w' ⟨rfl, rfl⟩)
      | (go_at_call 36; refine (turned_any _ _).mono ?_; rintro r w' ⟨rfl, rfl⟩)
      | (go_at_call 35; refine (put_no _ _ _ h h0 h1 hn).mono ?_; rintro r w1 ⟨rfl, hb1⟩; obtain ⟨cap, hb, hg, hlc, hcm, c0, c1, c2, c3, f1, f2, p1, p2⟩ := head_cells (h.below hb1)))
    go_ret3
    exact ⟨rfl, stack_set2 (h.below hb1) _, (Frm.of_below (F := fun k => k = b ∨ k = g) hb1).set (.inl rfl) _⟩
  · rw [if_neg hi0]
    have hi1 : (i == 0) = false := beq_eq_false_iff_ne.2 hi0
    go_enter Try.func20, Try.ntmps20
    go_wp2_with (first
      | (go_at_call 34; refine (none_some h (by simp)).mono ?_; rintro r w' ⟨rfl, rfl⟩)
      | (go_at_call 36; refine (turned_any _ _).mono ?_; rintro r w' ⟨rfl, rfl⟩)
      | (go_at_call 35; refine (put_no _ _ _ h h0 h1 hn).mono ?_; rintro r w1 ⟨rfl, hb1⟩; obtain ⟨cap, hb, hg, hlc, hcm, c0, c1, c2, c3, f1, f2, p1, p2⟩ := head_cells (h.below hb1)))
    go_ret3
    exact ⟨rfl, h.below hb1, Frm.of_below hb1⟩

set_option maxRecDepth 100000 in
set_option maxHeartbeats 1000000 in
theorem step_emb15_yes {w : World} {b g : Nat} {e : Ent} {l : List Ent} {i m v : Int} (auto : Int) (h : IsStack w b g (e :: l) i m v)
   (hl : l.length ≤ 124) (h0 : 0 ≤ e.lv) (h1 : e.lv ≤ 125) (hn : nextLv false e.lv ≤ 125) (hi : i ≤ 0) (hm : m ≤ 0) :
    Calls Try.prog 20 #[.pointer (some ⟨b, 0, none⟩), .int .u8 15, .int .i8 auto] w fun r w' => r = .returned (.tuple #[.int .i8 (-1), .int .u8 15, .bool false]) ∧
      ∃ g', (g' = g ∨ w.heap.size ≤ g') ∧ IsStack w' b g' (⟨nextLv false e.lv, 0, false⟩ :: e :: l) i m v ∧ Frm (fun k => k = b ∨ k = g) w w' := by
  go_enter Try.func20, Try.ntmps20
  go_wp2_with (first
    | (go_at_call 34; refine (none_some h (by simp)).mono ?_; rintro r w' ⟨rfl, rfl⟩)
    | (go_at_call 36; refine (turned_any _ _).mono ?_; rintro r w' ⟨rfl, rfl⟩)
    | (go_at_call 35; refine (put_yes _ _ _ h hl h0 h1 hn hi hm).mono ?_; rintro r w1 ⟨rfl, g', hg', h2, hf⟩))
  go_ret3
  exact ⟨rfl, g', hg', h2, hf⟩
set_option maxRecDepth 100000 in
set_option maxHeartbeats 1000000 in
theorem step_emb15_no {w : World} {b g : Nat} {e : Ent} {l : List Ent} {i m v : Int} (auto : Int) (h : IsStack w b g (e :: l) i m v)
   (h0 : 0 ≤ e.lv) (h1 : e.lv ≤ 125) (hn : 125 < nextLv false e.lv ∨ 0 < i ∨ 0 < m) (hi : 0 ≤ i) (hm : 0 ≤ m) (hm2 : m ≤ 1152921504606846976) :
    Calls Try.prog 20 #[.pointer (some ⟨b, 0, none⟩), .int .u8 15, .int .i8 auto] w fun r w' => r = .returned (.tuple #[.int .i8 (-1), .int .u8 15, .bool false]) ∧
      IsStack w' b g (e :: l) i (if i = 0 then m + 1 else m) v ∧ Frm (fun k => k = b ∨ k = g) w w' := by
  by_cases hi0 : i = 0
  · subst hi0
    rw [if_pos rfl]
    go_enter Try.func20, Try.ntmps20
    go_wp2_with (first
      | (go_at_call 34; refine (none_some h (by simp)).mono ?_; rintro r w' ⟨rfl, rfl⟩)
      | (go_at_call 36; refine (turned_any _ _).mono ?_; rintro r w' ⟨rfl, rfl⟩)
      | (go_at_call 35; refine (put_no _ _ _ h h0 h1 hn).mono ?_; rintro r w1 ⟨rfl, hb1⟩; obtain ⟨cap, hb, hg, hlc, hcm, c0, c1, c2, c3, f1, f2, p1, p2⟩ := head_cells (h.below hb1)))
    go_ret3
    exact ⟨rfl, stack_set2 (h.below hb1) _, (Frm.of_below (F := fun k => k = b ∨ k = g) hb1).set (.inl rfl) _⟩
  · rw [if_neg hi0]
    have hi1 : (i == 0) = false := beq_eq_false_iff_ne.2 hi0
    go_enter Try.func20, Try.ntmps20
    go_wp2_with (first
      | (go_at_call 34; refine (none_some h (by simp)).mono ?_; rintro r w' ⟨rfl, rfl⟩)
      | (go_at_call 36; refine (turned_any _ _).mono ?_; rintro r w' ⟨rfl, rfl⟩)
      | (go_at_call 35; refine (put_no _ _ _ h h0 h1 hn).mono ?_; rintro r w1 ⟨rfl, hb1⟩; obtain ⟨cap, hb, hg, hlc, hcm, c0, c1, c2, c3, f1, f2, p1, p2⟩ := head_cells (h.below hb1)))
    go_ret3
    exact ⟨rfl, h.below hb1, Frm.of_below hb1⟩

set_option maxRecDepth 100000 in
set_option maxHeartbeats 1000000 in
theorem step_emb16_yes {w : World} {b g : Nat} {e : Ent} {l : List Ent} {i m v : Int} (auto : Int) (h : IsStack w b g (e :: l) i m v)
   (hl : l.length ≤ 124) (h0 : 0 ≤ e.lv) (h1 : e.lv ≤ 125) (hn : nextLv false e.lv ≤ 125) (hi : i ≤ 0) (hm : m ≤ 0) :
    Calls Try.prog 20 #[.pointer (some ⟨b, 0, none⟩), .int .u8 16, .int .i8 auto] w fun r w' => r = .returned (.tuple #[.int .i8 (-1), .int .u8 16, .bool false]) ∧
      ∃ g', (g' = g ∨ w.heap.size ≤ g') ∧ IsStack w' b g' (⟨nextLv false e.lv, 1, false⟩ :: e :: l) i m v ∧ Frm (fun k => k = b ∨ k = g) w w' := by
  go_enter Try.func20, Try.ntmps20
  go_wp2_with (first
    | (go_at_call 34; refine (none_some h (by simp)).mono ?_; rintro r w' ⟨rfl, rfl⟩)
    | (go_at_call 36; refine (turned_any _ _).mono ?_; rintro r w' ⟨rfl, rfl⟩)
    | (go_at_call 35; refine (put_yes _ _ _ h hl h0 h1 hn hi hm).mono ?_; rintro r w1 ⟨rfl, g', hg', h2, hf⟩))
  go_ret3
  exact ⟨rfl, g', hg', h2, hf⟩
set_option maxRecDepth 100000 in
set_option maxHeartbeats 1000000 in
theorem step_emb16_no {w : World} {b g : Nat} {e : Ent} {l : List Ent} {i m v : Int} (auto : Int) (h : IsStack w b g (e :: l) i m v)
   (h0 : 0 ≤ e.lv) (h1 : e.lv ≤ 125) (hn : 125 < nextLv false e.lv ∨ 0 < i ∨ 0 < m) (hi : 0 ≤ i) (hm : 0 ≤ m) (hm2 : m ≤ 1152921504606846976) :
    Calls Try.prog 20 #[.pointer (some ⟨b, 0, none⟩), .int .u8 16, .int .i8 auto] w fun r w' => r = .returned (.tuple #[.int .i8 (-1), .int .u8 16, .bool false]) ∧
      IsStack w' b g (e :: l) i (if i = 0 then m + 1 else m) v ∧ Frm (fun k => k = b ∨ k = g) w w' := by
  by_cases hi0 : i = 0
  · subst hi0
    rw [if_pos rfl]
    go_enter Try.func20, Try.ntmps20
    go_wp2_with (first
      | (go_at_call 34; refine (none_some h (by simp)).mono ?_; rintro r w' ⟨rfl, rfl⟩)
      | (go_at_call 36; refine (turned_any _ _).mono ?_; rintro r w' ⟨rfl, rfl⟩)
      | (go_at_call 35; refine (put_no _ _ _ h h0 h1 hn).mono ?_; rintro r w1 ⟨rfl, hb1⟩; obtain ⟨cap, hb, hg, hlc, hcm, c0, c1, c2, c3, f1, f2, p1, p2⟩ := head_cells (h.below hb1)))
    go_ret3
    exact ⟨rfl, stack_set2 (h.below hb1) _, (Frm.of_below (F := fun k => k = b ∨ k = g) hb1).set (.inl rfl) _⟩
  · rw [if_neg hi0]
    have hi1 : (i == 0) = false := beq_eq_false_iff_ne.2 hi0
    go_enter Try.func20, Try.ntmps20
    go_wp2_with (first
      | (go_at_call 34; refine (none_some h (by simp)).mono ?_; rintro r w' ⟨rfl, rfl⟩)
      | (go_at_call 36; refine (turned_any _ _).mono ?_; rintro r w' ⟨rfl, rfl⟩)
      | (go_at_call 35; refine (put_no _ _ _ h h0 h1 hn).mono ?_; rintro r w1 ⟨rfl, hb1⟩; obtain ⟨cap, hb, hg, hlc, hcm, c0, c1, c2, c3, f1, f2, p1, p2⟩ := head_cells (h.below hb1)))
    go_ret3
    exact ⟨rfl, h.below hb1, Frm.of_below hb1⟩

end Go.Proofs.Ytfelcmppopibcaa
