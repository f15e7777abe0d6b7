/- What a stack tells, and its copy; no stack. -/
import Derived.Test.YtfelcmppopibcaaW8
namespace Go.Proofs.Ytfelcmppopibcaa
open Go.RowKit

theorem none_nil (w : World) : Calls Try.prog 34 #[.pointer none] w fun r w' => r = .returned (.bool true) ∧ w = w' := by
  go_enter Try.func34, Try.ntmps34
  go_wp2
  go_ret
  exact ⟨rfl, rfl⟩
set_option maxRecDepth 100000 in
set_option maxHeartbeats 1000000 in
theorem Step_nil (w : World) (c auto : Int) : Calls Try.prog 20 #[.pointer none, .int .u8 c, .int .i8 auto] w fun r w' => r = .returned (.tuple #[.int .i8 (-1), .int .u8 0, .bool false]) ∧ w = w' := by
  go_enter Try.func20, Try.ntmps20
  go_wp2_with (go_at_call 34; refine (none_nil _).mono ?_; rintro r w1 ⟨rfl, rfl⟩)
  go_ret3
  exact ⟨rfl, rfl⟩
theorem Over_nil (w : World) : Calls Try.prog 21 #[.pointer none] w fun r w' => r = .returned (.tuple #[.int .i64 0, .int .i64 0, .int .i64 0]) ∧ w = w' := by
  go_enter Try.func21, Try.ntmps21
  go_wp2_with (go_at_call 34; refine (none_nil _).mono ?_; rintro r w1 ⟨rfl, rfl⟩)
  go_ret3
  exact ⟨rfl, rfl⟩
theorem Depth_nil (w : World) : Calls Try.prog 23 #[.pointer none] w fun r w' => r = .returned (.int .i64 0) ∧ w = w' := by
  go_enter Try.func23, Try.ntmps23
  go_wp2_with (go_at_call 34; refine (none_nil _).mono ?_; rintro r w1 ⟨rfl, rfl⟩)
  go_ret
  exact ⟨rfl, rfl⟩
theorem Level_nil (w : World) : Calls Try.prog 24 #[.pointer none] w fun r w' => r = .returned (.int .i8 0) ∧ w = w' := by
  go_enter Try.func24, Try.ntmps24
  go_wp2_with (go_at_call 34; refine (none_nil _).mono ?_; rintro r w1 ⟨rfl, rfl⟩)
  go_ret
  exact ⟨rfl, rfl⟩
theorem Copy_nil (w : World) : Calls Try.prog 26 #[.pointer none] w fun r w' => r = .returned (.pointer none) ∧ w = w' := by
  go_enter Try.func26, Try.ntmps26
  go_wp2_with (go_at_call 34; refine (none_nil _).mono ?_; rintro r w1 ⟨rfl, rfl⟩)
  go_ret
  exact ⟨rfl, rfl⟩

theorem Depth_any {w : World} {b g : Nat} {l : List Ent} {i m v : Int} (h : IsStack w b g l i m v) (hl : 0 < l.length) :
    Calls Try.prog 23 #[.pointer (some ⟨b, 0, none⟩)] w fun r w' => r = .returned (.int .i64 l.length) ∧ w = w' := by
  obtain ⟨cap, hb, hg, _, _, h0, -⟩ := head_cells h
  go_enter Try.func23, Try.ntmps23
  go_wp2_with (go_at_call 34; refine (none_some h hl).mono ?_; rintro r w1 ⟨rfl, rfl⟩)
  go_ret
  exact ⟨rfl, rfl⟩
theorem Level_any {w : World} {b g : Nat} {e : Ent} {l : List Ent} {i m v : Int} (h : IsStack w b g (e :: l) i m v) :
    Calls Try.prog 24 #[.pointer (some ⟨b, 0, none⟩)] w fun r w' => r = .returned (.int .i8 e.lv) ∧ Below w.heap.size w w' := by
  go_enter Try.func24, Try.ntmps24
  go_wp2_with (first
    | (go_at_call 34; refine (none_some h (by simp)).mono ?_; rintro r w1 ⟨rfl, rfl⟩)
    | (go_at_call 39; refine (last_any h).mono ?_; rintro r w1 ⟨rfl, hb1⟩))
  go_ret
  exact ⟨rfl, hb1⟩
set_option maxRecDepth 100000 in
set_option maxHeartbeats 1000000 in
theorem Over_any {w : World} {b g : Nat} {l : List Ent} {i m v : Int} (h : IsStack w b g l i m v) (hl : 0 < l.length) :
    Calls Try.prog 21 #[.pointer (some ⟨b, 0, none⟩)] w fun r w' => r = .returned (.tuple #[.int .i64 i, .int .i64 m, .int .i64 v]) ∧ Below w.heap.size w w' := by
  obtain ⟨cap, hb, hg, _, _, h0, h1, h2, h3, -⟩ := head_cells h
  go_enter Try.func21, Try.ntmps21
  go_wp2_with (go_at_call 34; refine (none_some h hl).mono ?_; rintro r w1 ⟨rfl, rfl⟩)
  refine wp_region_reads (by kernel_rfl) (by kernel_rfl) ?_
  repeat (refine still_plain rfl rfl ?_; intro K hK; go_wp2)
  refine wpStill_nil ?_
  go_wp2
  go_ret3
  exact ⟨rfl, (Below.refl _ _).drew⟩
end Go.Proofs.Ytfelcmppopibcaa
