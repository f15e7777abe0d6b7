/- Stack walks: none, plain, put. -/
import Derived.Test.YtfelcmppopibcaaW1
namespace Go.Proofs.Ytfelcmppopibcaa
open Go.RowKit

@[go_sem] theorem fld79_0 (a b c : Value) (w : World) : (Instr.field 79 (.agg #[a, b, c]) 0).run Try.prog w = .ok a w := by kernel_rfl
@[go_sem] theorem fld79_1 (a b c : Value) (w : World) : (Instr.field 79 (.agg #[a, b, c]) 1).run Try.prog w = .ok b w := by kernel_rfl
@[go_sem] theorem fld79_2 (a b c : Value) (w : World) : (Instr.field 79 (.agg #[a, b, c]) 2).run Try.prog w = .ok c w := by kernel_rfl
theorem Try.el80 : ElemT Try.prog 80 79 3 3 := ElemT.mk' (.agg #[.int .i8 0, .int .u8 0, .bool false]) Try.underlying80 (by kernel_rfl) rfl (by omega)

theorem head_cells {w : World} {b g : Nat} {l : List Ent} {i m v : Int} (h : IsStack w b g l i m v) :
    ∃ cap, b < w.heap.size ∧ g < w.heap.size ∧ l.length ≤ cap ∧ cap ≤ maxLen ∧ w.cell? ⟨b, 0, none⟩ = some (.slice (some ⟨g, 0, none⟩) l.length cap) ∧ w.cell? ⟨b, 1, none⟩ = some (.int .i64 i) ∧
      w.cell? ⟨b, 2, none⟩ = some (.int .i64 m) ∧ w.cell? ⟨b, 3, none⟩ = some (.int .i64 v) ∧ (∀ j, w.frozen? ⟨b, j, none⟩ = false) ∧ (∀ j, w.frozen? ⟨g, j, none⟩ = false) ∧
      Blk w b 82 #[.slice (some ⟨g, 0, none⟩) l.length cap, .int .i64 i, .int .i64 m, .int .i64 v] ∧ w.ownsRow 0 79 3 (.slice (some ⟨g, 0, none⟩) l.length cap) l.length (entCells l) := by
  obtain ⟨cap, h1, h0⟩ := h.parts
  obtain ⟨cur, _, h2, h3, h4, h5, h6⟩ := own_blk h0
  exact ⟨cap, h1.lt, h2.lt, h3, h4, by rw [h1.cell]; rfl, by rw [h1.cell]; rfl, by rw [h1.cell]; rfl, by rw [h1.cell]; rfl, h1.frozen, h2.frozen, h1, h0⟩

theorem none_some {w : World} {b g : Nat} {l : List Ent} {i m v : Int} (h : IsStack w b g l i m v) (hl : 0 < l.length) :
    Calls Try.prog 34 #[.pointer (some ⟨b, 0, none⟩)] w fun r w' => r = .returned (.bool false) ∧ w = w' := by
  obtain ⟨cap, hb, hg, _, _, h0, -⟩ := head_cells h
  have hs := h.small
  clear h
  have h00 : ((l.length : Int) == 0) = false := beq_eq_false_iff_ne.2 (by omega)
  go_enter Try.func34, Try.ntmps34
  go_wp2
  go_ret
  exact ⟨rfl, rfl⟩


set_option maxHeartbeats 1000000 in
theorem plain_any {w : World} {b g : Nat} {e : Ent} {l : List Ent} {i m v : Int} (c : Int) (h : IsStack w b g (e :: l) i m v) :
    Calls Try.prog 37 #[.pointer (some ⟨b, 0, none⟩), .int .u8 c] w fun r w' => r = .returned (.tuple #[.int .i8 e.lv, .int .u8 (plainCls c e.ov), .bool true]) ∧ Below w.heap.size w w' := by
  unfold plainCls
  by_cases ho : e.ov = 0
  · rw [if_neg (by simp [ho])]
    have ho' : (e.ov != 0) = false := by simp [ho]
    by_cases hc : c < 1
    · rw [if_pos (.inl hc)]
      go_enter Try.func37, Try.ntmps37
      go_wp2_with (go_at_call 39; refine (last_any h).mono ?_; rintro r w1 ⟨rfl, hb1⟩)
      go_ret3
      exact ⟨rfl, hb1.alloc hb1.size _⟩
    · by_cases hc2 : 23 < c
      · rw [if_pos (.inr hc2)]
        go_enter Try.func37, Try.ntmps37
        go_wp2_with (go_at_call 39; refine (last_any h).mono ?_; rintro r w1 ⟨rfl, hb1⟩)
        go_ret3
        exact ⟨rfl, hb1.alloc hb1.size _⟩
      · rw [if_neg (by omega)]
        go_enter Try.func37, Try.ntmps37
        go_wp2_with (go_at_call 39; refine (last_any h).mono ?_; rintro r w1 ⟨rfl, hb1⟩)
        go_ret3
        exact ⟨rfl, hb1.alloc hb1.size _⟩
  · rw [if_pos ho]
    have ho' : (e.ov != 0) = true := by simp [ho]
    go_enter Try.func37, Try.ntmps37
    go_wp2_with (go_at_call 39; refine (last_any h).mono ?_; rintro r w1 ⟨rfl, hb1⟩)
    go_ret3
    exact ⟨rfl, hb1.alloc hb1.size _⟩

end Go.Proofs.Ytfelcmppopibcaa
