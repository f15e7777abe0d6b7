/- Stack walks, first trial. -/
import Derived.Test.YtfelcmppopibcaaS1
namespace Go.Proofs.Ytfelcmppopibcaa
open Go.RowKit

structure IsStack (w : World) (b g : Nat) (l : List Ent) (i m v : Int) : Prop where
  ne : b ≠ g
  small : l.length ≤ 126
  parts : ∃ cap, Blk w b 82 #[.slice (some ⟨g, 0, none⟩) l.length cap, .int .i64 i, .int .i64 m, .int .i64 v] ∧ w.ownsRow 0 79 3 (.slice (some ⟨g, 0, none⟩) l.length cap) l.length (entCells l)

theorem IsStack.below {w w' : World} {b g l i m v} (h : IsStack w b g l i m v) (hb : Below w.heap.size w w') : IsStack w' b g l i m v := by
  obtain ⟨cap, h1, h2⟩ := h.parts
  obtain ⟨cur, _, h3, _⟩ := own_blk h2
  exact ⟨h.ne, h.small, cap, h1.below hb h1.lt, h2.kept (row := none) ⟨hb.os, hb.tape, hb.output, hb.size, fun k hk _ => hb.block k hk⟩ (.inr (by simp [Value.ownBlock]))⟩
theorem IsStack.frm {w w' : World} {b g l i m v} {F : Nat → Prop} (h : IsStack w b g l i m v) (hf : Frm F w w') (hb : ¬ F b) (hg : ¬ F g) : IsStack w' b g l i m v := by
  obtain ⟨cap, h1, h2⟩ := h.parts
  obtain ⟨cur, h0, h3, h4, h5, h6, h7⟩ := own_blk h2
  exact ⟨h.ne, h.small, cap, h1.frm hf hb, h2.1, .inr ⟨g, cap, cur, rfl, h0, h3.frm hf hg, h4, h5, h6, h7⟩⟩

/-- The cells of the last entry. -/
theorem top_cells {w : World} {b g : Nat} {e : Ent} {l : List Ent} {i m v : Int} (h : IsStack w b g (e :: l) i m v) :
    ∃ cap, b < w.heap.size ∧ g < w.heap.size ∧ w.cell? ⟨b, 0, none⟩ = some (.slice (some ⟨g, 0, none⟩) (l.length + 1) cap) ∧ w.cell? ⟨g, l.length * 3, none⟩ = some (.int .i8 e.lv) ∧
      w.cell? ⟨g, l.length * 3 + 1, none⟩ = some (.int .u8 e.ov) ∧ w.cell? ⟨g, l.length * 3 + 2, none⟩ = some (.bool e.iso) := by
  obtain ⟨cap, h1, h0⟩ := h.parts
  obtain ⟨cur, _, h2, _⟩ := own_blk h0
  have key : ∀ j u, (entCells (e :: l))[j]? = some u → w.cell? ⟨g, j, none⟩ = some u := by
    intro j u hu
    have h3 := h0.cells (g := g) rfl j u hu
    have : (⟨g, 0, none⟩ : Addr).add j = ⟨g, j, none⟩ := by unfold Addr.add; split <;> simp_all
    rwa [this] at h3
  refine ⟨cap, h1.lt, h2.lt, by rw [h1.cell]; rfl, key _ _ ?_, key _ _ ?_, key _ _ ?_⟩ <;>
    (rw [entCells_cons, List.getElem?_append_right (by rw [entCells_length]; omega), entCells_length]; simp [Ent.cells])

set_option maxRecDepth 100000 in
set_option maxHeartbeats 400000 in
theorem last_any {w : World} {b g : Nat} {e : Ent} {l : List Ent} {i m v : Int} (h : IsStack w b g (e :: l) i m v) :
    Calls Try.prog 39 #[.pointer (some ⟨b, 0, none⟩)] w fun r w' => r = .returned (.agg #[.int .i8 e.lv, .int .u8 e.ov, .bool e.iso]) ∧ Below w.heap.size w w' := by
  obtain ⟨cap, hb, hg, h0, h1, h2, h3⟩ := top_cells h
  have hn := h.small
  simp only [List.length_cons] at hn
  have b0 : (w.alloc (Obj.cells #[Value.int IntKind.i8 0, Value.int IntKind.u8 0, Value.bool false] 79)).cell? ⟨b, 0, none⟩ = some (.slice (some ⟨g, 0, none⟩) (l.length + 1) cap) := by
    rw [World.cell?_alloc_past _ _ _ hb]; exact h0
  clear h
  go_enter Try.func39, Try.ntmps39
  go_wp2
  refine wp_region_tail 12 (by kernel_rfl) (by kernel_rfl) ?_
  simp only [List.take_succ_cons, List.take_zero, List.drop_succ_cons, List.drop_zero]
  repeat (refine still_plain rfl rfl ?_; intro K hK; go_wp2)
  refine wpStill_nil ?_
  go_wp2
  refine bodyPost_ret (v := .agg #[.int .i8 e.lv, .int .u8 e.ov, .bool e.iso]) (by simp [results, Try.results39, go_sem]) rfl ⟨rfl, ?_⟩
  exact ((Below.refl _ _).alloc (Nat.le_refl _) _).drew

set_option maxHeartbeats 400000 in
theorem turned_any (c : Int) (w : World) :
    Calls Try.prog 36 #[.int .u8 c] w fun e w' => e = .returned (.int .u8 (if c = 18 then 2 else if c = 16 then 1 else 0)) ∧ w = w' := by
  by_cases h1 : c = 18
  · subst h1
    go_enter Try.func36, Try.ntmps36
    go_wp2
    go_ret
    exact ⟨rfl, rfl⟩
  · by_cases h2 : c = 16
    · subst h2
      go_enter Try.func36, Try.ntmps36
      go_wp2
      go_ret
      exact ⟨rfl, rfl⟩
    · rw [if_neg h1, if_neg h2]
      go_enter Try.func36, Try.ntmps36
      go_wp2
      go_ret
      exact ⟨rfl, rfl⟩
end Go.Proofs.Ytfelcmppopibcaa
