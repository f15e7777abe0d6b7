/- Stack walks: Step, the rest. -/
import Derived.Test.YtfelcmppopibcaaW6
namespace Go.Proofs.Ytfelcmppopibcaa
open Go.RowKit

set_option maxRecDepth 100000 in
set_option maxHeartbeats 1000000 in
theorem step_pdi_iso {w : World} {b g : Nat} {e : Ent} {l : List Ent} {i m v : Int} (auto : Int) (h : IsStack w b g (e :: l) i m v) (hi : 0 < i) (hb : i ≤ 1152921504606846976) :
    Calls Try.prog 20 #[.pointer (some ⟨b, 0, none⟩), .int .u8 23, .int .i8 auto] w fun r w' => r = .returned (.tuple #[.int .i8 e.lv, .int .u8 (plainCls 23 e.ov), .bool true]) ∧
      IsStack w' b g (e :: l) (i - 1) m v ∧ Frm (fun k => k = b ∨ k = g) w w' := by
  go_enter Try.func20, Try.ntmps20
  go_wp2_with (first
    | (go_at_call 34; refine (none_some h (by simp)).mono ?_; rintro r w' ⟨rfl, rfl⟩)
    | (go_at_call 38; refine (pop_iso h hi hb).mono ?_; rintro r w1 ⟨rfl, h1, hf1⟩)
    | (go_at_call 37; refine (plain_any _ h1).mono ?_; rintro r w2 ⟨rfl, hb2⟩))
  go_ret3
  exact ⟨rfl, h1.below hb2, (hf1.mono (fun _ _ h => .inl h)).trans (Frm.of_below (F := fun _ => False) hb2) (fun _ _ h => h.elim)⟩
set_option maxRecDepth 100000 in
set_option maxHeartbeats 1000000 in
theorem step_pdi_not {w : World} {b g : Nat} {e : Ent} {l : List Ent} {i m v : Int} (auto : Int) (h : IsStack w b g (e :: l) i m v) (hi : i ≤ 0) (hv : v ≤ 0) :
    Calls Try.prog 20 #[.pointer (some ⟨b, 0, none⟩), .int .u8 23, .int .i8 auto] w fun r w' => r = .returned (.tuple #[.int .i8 e.lv, .int .u8 (plainCls 23 e.ov), .bool true]) ∧
      IsStack w' b g (e :: l) i m v ∧ Frm (fun k => k = b ∨ k = g) w w' := by
  go_enter Try.func20, Try.ntmps20
  go_wp2_with (first
    | (go_at_call 34; refine (none_some h (by simp)).mono ?_; rintro r w' ⟨rfl, rfl⟩)
    | (go_at_call 38; refine (pop_not h hi hv).mono ?_; rintro r w1 ⟨rfl, rfl⟩)
    | (go_at_call 37; refine (plain_any _ h).mono ?_; rintro r w2 ⟨rfl, hb2⟩))
  go_ret3
  exact ⟨rfl, h.below hb2, Frm.of_below hb2⟩
set_option maxRecDepth 100000 in
set_option maxHeartbeats 1000000 in
theorem step_pdi_val {w : World} {b g : Nat} {e e' : Ent} {l l' : List Ent} {i m v : Int} (auto : Int) (h : IsStack w b g (e :: l) i m v) (hi : i ≤ 0) (hv : 0 < v) (hv2 : v ≤ 1152921504606846976)
    (hl : ∃ x ∈ e :: l, x.iso = true) (hp : popTo (e :: l) = e' :: l') :
    Calls Try.prog 20 #[.pointer (some ⟨b, 0, none⟩), .int .u8 23, .int .i8 auto] w fun r w' => r = .returned (.tuple #[.int .i8 e'.lv, .int .u8 (plainCls 23 e'.ov), .bool true]) ∧
      IsStack w' b g (e' :: l') i 0 (v - 1) ∧ Frm (fun k => k = b ∨ k = g) w w' := by
  have hp := Lib.hid hp
  have hl := Lib.hid hl
  go_enter Try.func20, Try.ntmps20
  go_wp2_with (first
    | (go_at_call 34; refine (none_some h (by simp)).mono ?_; rintro r w' ⟨rfl, rfl⟩)
    | (go_at_call 38; refine (pop_val h hi hv hv2 hl.out).mono ?_; rintro r w1 ⟨rfl, h1, hf1⟩; rw [hp.out] at h1)
    | (go_at_call 37; refine (plain_any _ h1).mono ?_; rintro r w2 ⟨rfl, hb2⟩))
  go_ret3
  exact ⟨rfl, h1.below hb2, (hf1.mono (fun _ _ h => .inl h)).trans (Frm.of_below (F := fun _ => False) hb2) (fun _ _ h => h.elim)⟩
set_option maxRecDepth 100000 in
set_option maxHeartbeats 1000000 in
theorem step_oth {w : World} {b g : Nat} {e : Ent} {l : List Ent} {i m v : Int} (c auto : Int) (h : IsStack w b g (e :: l) i m v)
    (n15 : c ≠ 15) (n16 : c ≠ 16) (n17 : c ≠ 17) (n18 : c ≠ 18) (n19 : c ≠ 19) (n20 : c ≠ 20) (n21 : c ≠ 21) (n22 : c ≠ 22) (n23 : c ≠ 23) (n10 : c ≠ 10) (n11 : c ≠ 11) :
    Calls Try.prog 20 #[.pointer (some ⟨b, 0, none⟩), .int .u8 c, .int .i8 auto] w fun r w' => r = .returned (.tuple #[.int .i8 e.lv, .int .u8 (plainCls c e.ov), .bool true]) ∧
      IsStack w' b g (e :: l) i m v ∧ Frm (fun k => k = b ∨ k = g) w w' := by
  go_enter Try.func20, Try.ntmps20
  go_wp2_with (first
    | (go_at_call 34; refine (none_some h (by simp)).mono ?_; rintro r w' ⟨rfl, rfl⟩)
    | (go_at_call 37; refine (plain_any _ h).mono ?_; rintro r w2 ⟨rfl, hb2⟩))
  go_ret3
  exact ⟨rfl, h.below hb2, Frm.of_below hb2⟩
set_option maxRecDepth 100000 in
set_option maxHeartbeats 1000000 in
theorem step_bn {w : World} {b g : Nat} {e : Ent} {l : List Ent} {i m v : Int} (auto : Int) (h : IsStack w b g (e :: l) i m v) :
    Calls Try.prog 20 #[.pointer (some ⟨b, 0, none⟩), .int .u8 10, .int .i8 auto] w fun r w' => r = .returned (.tuple #[.int .i8 (-1), .int .u8 10, .bool false]) ∧
      IsStack w' b g (e :: l) i m v ∧ Frm (fun k => k = b ∨ k = g) w w' := by
  go_enter Try.func20, Try.ntmps20
  go_wp2_with (go_at_call 34; refine (none_some h (by simp)).mono ?_; rintro r w' ⟨rfl, rfl⟩)
  go_ret3
  exact ⟨rfl, h, Frm.refl _ _⟩
theorem stack_cut {w : World} {b g cap : Nat} {x : Ent} {l : List Ent} {i m v : Int} (h : IsStack w b g (l ++ [x]) i m v)
   (p1 : Blk w b 82 #[.slice (some ⟨g, 0, none⟩) (l ++ [x]).length cap, .int .i64 i, .int .i64 m, .int .i64 v]) (p2 : w.ownsRow 0 79 3 (.slice (some ⟨g, 0, none⟩) (l ++ [x]).length cap) (l ++ [x]).length (entCells (l ++ [x]))) :
    IsStack (w.setCell ⟨b, 0, none⟩ (.slice (some ⟨g, 0, none⟩) 1 cap)) b g [x] i m v ∧ w.cell? ⟨g, 0, none⟩ = some (.int .i8 x.lv) := by
  have hne := h.ne
  have he : entCells (l ++ [x]) = entCells [x] ++ entCells l := by simp [entCells]
  rw [he] at p2
  refine ⟨⟨hne, by simp, cap, by simpa using p1.set_ 0 (.slice (some ⟨g, 0, none⟩) 1 cap), ?_⟩, ?_⟩
  · refine own_setCell_far ?_ (by simpa using hne.symm) _
    exact own_cut p2 (entCells_length [x]) (by simp)
  · exact p2.cells (g := g) rfl 0 (.int .i8 x.lv) (by simp [entCells, Ent.cells])

set_option maxRecDepth 100000 in
set_option maxHeartbeats 1000000 in
theorem step_b {w : World} {b g : Nat} {l : List Ent} {i m v : Int} (auto base : Int) (h : IsStack w b g (l ++ [⟨base, 0, false⟩]) i m v) :
    Calls Try.prog 20 #[.pointer (some ⟨b, 0, none⟩), .int .u8 11, .int .i8 auto] w fun r w' => r = .returned (.tuple #[.int .i8 base, .int .u8 11, .bool true]) ∧
      IsStack w' b g [⟨base, 0, false⟩] 0 0 0 ∧ Frm (fun k => k = b ∨ k = g) w w' := by
  obtain ⟨cap, hb, hg, hlc, hcm, c0, c1, c2, c3, f1, f2, p1, p2⟩ := head_cells h
  have hl0 : 0 < (l ++ [(⟨base, 0, false⟩ : Ent)]).length := by simp
  obtain ⟨q1, q2⟩ := stack_cut h p1 p2
  have hne := h.ne
  have hne' := h.ne.symm
  go_enter Try.func20, Try.ntmps20
  go_wp2_with (go_at_call 34; refine (none_some h hl0).mono ?_; rintro r w' ⟨rfl, rfl⟩)
  go_ret3
  exact ⟨rfl, stack_set3 (stack_set2 (stack_set1 q1 0) 0) 0, ((((Frm.refl (fun k => k = b ∨ k = g) w).set (.inl rfl) _).set (.inl rfl) _).set (.inl rfl) _).set (.inl rfl) _⟩
set_option maxRecDepth 100000 in
set_option maxHeartbeats 1000000 in
theorem step_pdf_iso {w : World} {b g : Nat} {e : Ent} {l : List Ent} {i m v : Int} (auto : Int) (h : IsStack w b g (e :: l) i m v) (hi : 0 < i) :
    Calls Try.prog 20 #[.pointer (some ⟨b, 0, none⟩), .int .u8 19, .int .i8 auto] w fun r w' => r = .returned (.tuple #[.int .i8 (-1), .int .u8 19, .bool false]) ∧
      IsStack w' b g (e :: l) i m v ∧ Frm (fun k => k = b ∨ k = g) w w' := by
  obtain ⟨cap, hb, hg, hlc, hcm, c0, c1, c2, c3, f1, f2, p1, p2⟩ := head_cells h
  go_enter Try.func20, Try.ntmps20
  go_wp2_with (go_at_call 34; refine (none_some h (by simp)).mono ?_; rintro r w' ⟨rfl, rfl⟩)
  go_ret3
  exact ⟨rfl, h, Frm.refl _ _⟩
set_option maxRecDepth 100000 in
set_option maxHeartbeats 1000000 in
theorem step_pdf_emb {w : World} {b g : Nat} {e : Ent} {l : List Ent} {i m v : Int} (auto : Int) (h : IsStack w b g (e :: l) i m v) (hi : i ≤ 0) (hm : 0 < m) (hm2 : m ≤ 1152921504606846976) :
    Calls Try.prog 20 #[.pointer (some ⟨b, 0, none⟩), .int .u8 19, .int .i8 auto] w fun r w' => r = .returned (.tuple #[.int .i8 (-1), .int .u8 19, .bool false]) ∧
      IsStack w' b g (e :: l) i (m - 1) v ∧ Frm (fun k => k = b ∨ k = g) w w' := by
  obtain ⟨cap, hb, hg, hlc, hcm, c0, c1, c2, c3, f1, f2, p1, p2⟩ := head_cells h
  go_enter Try.func20, Try.ntmps20
  go_wp2_with (go_at_call 34; refine (none_some h (by simp)).mono ?_; rintro r w' ⟨rfl, rfl⟩)
  go_ret3
  exact ⟨rfl, stack_set2 h _, (Frm.refl (fun k => k = b ∨ k = g) w).set (.inl rfl) _⟩
set_option maxRecDepth 100000 in
set_option maxHeartbeats 1000000 in
theorem step_pdf_one {w : World} {b g : Nat} {e : Ent} {i m v : Int} (auto : Int) (h : IsStack w b g [e] i m v) (hi : i ≤ 0) (hm : m ≤ 0) :
    Calls Try.prog 20 #[.pointer (some ⟨b, 0, none⟩), .int .u8 19, .int .i8 auto] w fun r w' => r = .returned (.tuple #[.int .i8 (-1), .int .u8 19, .bool false]) ∧
      IsStack w' b g [e] i m v ∧ Frm (fun k => k = b ∨ k = g) w w' := by
  obtain ⟨cap, hb, hg, hlc, hcm, c0, c1, c2, c3, f1, f2, p1, p2⟩ := head_cells h
  simp only [List.length_cons, List.length_nil] at c0
  go_enter Try.func20, Try.ntmps20
  go_wp2_with (go_at_call 34; refine (none_some h (by simp)).mono ?_; rintro r w' ⟨rfl, rfl⟩)
  go_ret3
  exact ⟨rfl, h, Frm.refl _ _⟩
set_option maxRecDepth 100000 in
set_option maxHeartbeats 1000000 in
theorem step_pdf_keep {w : World} {b g : Nat} {e e' : Ent} {l : List Ent} {i m v : Int} (auto : Int) (h : IsStack w b g (e :: e' :: l) i m v) (hi : i ≤ 0) (hm : m ≤ 0) (he : e.iso = true) :
    Calls Try.prog 20 #[.pointer (some ⟨b, 0, none⟩), .int .u8 19, .int .i8 auto] w fun r w' => r = .returned (.tuple #[.int .i8 (-1), .int .u8 19, .bool false]) ∧
      IsStack w' b g (e :: e' :: l) i m v ∧ Frm (fun k => k = b ∨ k = g) w w' := by
  obtain ⟨cap, hb, hg, hlc, hcm, c0, c1, c2, c3, f1, f2, p1, p2⟩ := head_cells h
  have hsm := h.small
  simp only [List.length_cons] at c0 hsm
  go_enter Try.func20, Try.ntmps20
  go_wp2_with (first
    | (go_at_call 34; refine (none_some h (by simp)).mono ?_; rintro r w' ⟨rfl, rfl⟩)
    | (go_at_call 39; refine (last_any h).mono ?_; rintro r w1 ⟨rfl, hb1⟩))
  go_ret3
  exact ⟨rfl, h.below hb1, Frm.of_below hb1⟩
set_option maxRecDepth 100000 in
set_option maxHeartbeats 1000000 in
theorem step_pdf_off {w : World} {b g : Nat} {e e' : Ent} {l : List Ent} {i m v : Int} (auto : Int) (h : IsStack w b g (e :: e' :: l) i m v) (hi : i ≤ 0) (hm : m ≤ 0) (he : e.iso = false) :
    Calls Try.prog 20 #[.pointer (some ⟨b, 0, none⟩), .int .u8 19, .int .i8 auto] w fun r w' => r = .returned (.tuple #[.int .i8 (-1), .int .u8 19, .bool false]) ∧
      IsStack w' b g (e' :: l) i m v ∧ Frm (fun k => k = b ∨ k = g) w w' := by
  obtain ⟨cap, hb, hg, hlc, hcm, c0, c1, c2, c3, f1, f2, p1, p2⟩ := head_cells h
  have hsm := h.small
  simp only [List.length_cons] at c0 hsm
  go_enter Try.func20, Try.ntmps20
  go_wp2_with (first
    | (go_at_call 34; refine (none_some h (by simp)).mono ?_; rintro r w' ⟨rfl, rfl⟩)
    | (go_at_call 39; refine (last_any h).mono ?_; rintro r w1 ⟨rfl, hb1⟩; obtain ⟨cap', hb', hg', hlc', hcm', d0, d1, d2, d3, g1, g2, q1, q2⟩ := head_cells (h.below hb1); simp only [List.length_cons] at d0 hlc'))
  refine wp_region_tail 14 (by kernel_rfl) (by kernel_rfl) ?_
  simp only [List.take_succ_cons, List.take_zero, List.drop_succ_cons, List.drop_zero]
  repeat (refine still_plain rfl rfl ?_; intro K hK; go_wp2)
  refine wpStill_nil ?_
  go_wp2
  go_ret3
  exact ⟨rfl, (stack_off (h.below hb1) q1 q2).drew, ((Frm.of_below (F := fun k => k = b ∨ k = g) hb1).set (.inl rfl) _).drew⟩
end Go.Proofs.Ytfelcmppopibcaa
