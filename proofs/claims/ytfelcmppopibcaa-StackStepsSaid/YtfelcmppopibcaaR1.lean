/- The reference's stack: Last, Next, room, plain. -/
import Derived.Test.YtfelcmppopibcaaS1
namespace Go.Proofs.Ytfelcmppopibcaa
open Go.RowKit

@[go_sem] theorem fld88_0 (a b c : Value) (w : World) : (Instr.field 88 (.agg #[a, b, c]) 0).run Try.prog w = .ok a w := by kernel_rfl
@[go_sem] theorem fld88_1 (a b c : Value) (w : World) : (Instr.field 88 (.agg #[a, b, c]) 1).run Try.prog w = .ok b w := by kernel_rfl
@[go_sem] theorem fld88_2 (a b c : Value) (w : World) : (Instr.field 88 (.agg #[a, b, c]) 2).run Try.prog w = .ok c w := by kernel_rfl
theorem Try.el57 : ElemT Try.prog 57 88 3 3 := ElemT.mk' (.agg #[.int .i8 0, .int .u8 0, .bool false]) Try.underlying57 (by kernel_rfl) rfl (by omega)

/-- A stack of the reference, as a value. -/
abbrev refV (base : Int) (A : Option Addr) (n c : Nat) (i m v : Int) : Value := .agg #[.int .i8 base, .slice A n c, .int .i64 i, .int .i64 m, .int .i64 v]

theorem ref_top {w : World} {B : Nat} {A : Option Addr} {e : Ent} {l : List Ent} (h : Reads w B 3 A (l.length + 1) (entCells (e :: l))) :
    ∃ b off, A = some ⟨b, off, none⟩ ∧ b < B ∧ b < w.heap.size ∧ w.cell? ⟨b, off + l.length * 3, none⟩ = some (.int .i8 e.lv) ∧ w.cell? ⟨b, off + l.length * 3 + 1, none⟩ = some (.int .u8 e.ov) ∧
      w.cell? ⟨b, off + l.length * 3 + 2, none⟩ = some (.bool e.iso) := by
  obtain ⟨b, off, rfl, hb, hs, hc⟩ := h.2 (by omega)
  refine ⟨b, off, rfl, hb, hs, hc _ _ ?_, ?_, ?_⟩
  · rw [entCells_cons, List.getElem?_append_right (by rw [entCells_length]; omega), entCells_length]; simp [Ent.cells]
  · rw [Nat.add_assoc]; refine hc _ _ ?_
    rw [entCells_cons, List.getElem?_append_right (by rw [entCells_length]; omega), entCells_length]; simp [Ent.cells]
  · rw [Nat.add_assoc]; refine hc _ _ ?_
    rw [entCells_cons, List.getElem?_append_right (by rw [entCells_length]; omega), entCells_length]; simp [Ent.cells]

set_option maxRecDepth 100000 in
set_option maxHeartbeats 1000000 in
theorem rLast_any {w : World} {B : Nat} {A : Option Addr} {e : Ent} {l : List Ent} {c : Nat} {base i m v : Int} (h : Reads w B 3 A (l.length + 1) (entCells (e :: l))) (hs : l.length + 1 ≤ 126) :
    Calls Try.prog 45 #[refV base A (l.length + 1) c i m v] w fun r w' => r = .returned (.agg #[.int .i8 e.lv, .int .u8 e.ov, .bool e.iso]) ∧ Below w.heap.size w w' := by
  obtain ⟨b, off, rfl, hb, hbs, c0, c1, c2⟩ := ref_top h
  go_enter Try.func45, Try.ntmps45
  go_wp2
  exact bodyPost_ret (v := .agg #[.int .i8 e.lv, .int .u8 e.ov, .bool e.iso]) (by simp [results, Try.results45, go_sem]) rfl ⟨rfl, ((Below.refl _ _).alloc (Nat.le_refl _) _).alloc (by simp) _⟩

set_option maxRecDepth 100000 in
set_option maxHeartbeats 1000000 in
theorem rNext_any {w : World} {B : Nat} {A : Option Addr} {e : Ent} {l : List Ent} {c : Nat} {base i m v : Int} (odd : Bool) (h : Reads w B 3 A (l.length + 1) (entCells (e :: l))) (hs : l.length + 1 ≤ 126) (h0 : 0 ≤ e.lv) (h1 : e.lv ≤ 125) :
    Calls Try.prog 41 #[refV base A (l.length + 1) c i m v, .bool odd] w fun r w' => r = .returned (.int .i64 (nextLv odd e.lv)) ∧ Below w.heap.size w w' := by
  unfold nextLv
  have hL : ∀ w1 : World, Below w.heap.size w w1 → Reads w1 B 3 A (l.length + 1) (entCells (e :: l)) := fun w1 hb => h.below hb (.inr (Nat.le_refl _))
  cases odd
  · by_cases hp : e.lv % 2 = 0
    · rw [if_neg (by simp [hp])]
      have hp2 : ((e.lv + 1) % 2 == 1) = true := beq_iff_eq.2 (by omega)
      clear hp
      go_enter Try.func41, Try.ntmps41
      go_wp2_with (go_at_call 45; refine (rLast_any (h.alloc _) hs).mono ?_; rintro r w1 ⟨rfl, hb1⟩)
      go_ret
      exact ⟨rfl, ((Below.refl _ _).alloc (Nat.le_refl _) _).trans (hb1.mono (by simp))⟩
    · rw [if_pos (by simp [hp])]
      have hp2 : ((e.lv + 1) % 2 == 1) = false := beq_eq_false_iff_ne.2 (by omega)
      clear hp
      go_enter Try.func41, Try.ntmps41
      go_wp2_with (go_at_call 45; refine (rLast_any (h.alloc _) hs).mono ?_; rintro r w1 ⟨rfl, hb1⟩)
      go_ret
      exact ⟨rfl, ((Below.refl _ _).alloc (Nat.le_refl _) _).trans (hb1.mono (by simp))⟩
  · by_cases hp : e.lv % 2 = 0
    · rw [if_pos (by simp [hp])]
      have hp2 : ((e.lv + 1) % 2 == 1) = true := beq_iff_eq.2 (by omega)
      clear hp
      go_enter Try.func41, Try.ntmps41
      go_wp2_with (go_at_call 45; refine (rLast_any (h.alloc _) hs).mono ?_; rintro r w1 ⟨rfl, hb1⟩)
      go_ret
      exact ⟨rfl, ((Below.refl _ _).alloc (Nat.le_refl _) _).trans (hb1.mono (by simp))⟩
    · rw [if_neg (by simp [hp])]
      have hp2 : ((e.lv + 1) % 2 == 1) = false := beq_eq_false_iff_ne.2 (by omega)
      clear hp
      go_enter Try.func41, Try.ntmps41
      go_wp2_with (go_at_call 45; refine (rLast_any (h.alloc _) hs).mono ?_; rintro r w1 ⟨rfl, hb1⟩)
      go_ret
      exact ⟨rfl, ((Below.refl _ _).alloc (Nat.le_refl _) _).trans (hb1.mono (by simp))⟩

set_option maxRecDepth 100000 in
set_option maxHeartbeats 1000000 in
theorem rRoom_yes {w : World} {A : Option Addr} {k c : Nat} {base i m v : Int} (n : Int) (hn : n ≤ 125) (hi : i = 0) (hm : m = 0) :
    Calls Try.prog 42 #[refV base A k c i m v, .int .i64 n] w fun r w' => r = .returned (.bool true) ∧ Below w.heap.size w w' := by
  subst hi hm
  go_enter Try.func42, Try.ntmps42
  go_wp2
  go_ret
  exact ⟨rfl, ((Below.refl _ _).alloc (Nat.le_refl _) _)⟩
set_option maxRecDepth 100000 in
set_option maxHeartbeats 1000000 in
theorem rRoom_no {w : World} {A : Option Addr} {k c : Nat} {base i m v : Int} (n : Int) (h : 125 < n ∨ i ≠ 0 ∨ m ≠ 0) :
    Calls Try.prog 42 #[refV base A k c i m v, .int .i64 n] w fun r w' => r = .returned (.bool false) ∧ Below w.heap.size w w' := by
  by_cases hn : 125 < n
  · clear h
    go_enter Try.func42, Try.ntmps42
    go_wp2
    go_ret
    exact ⟨rfl, ((Below.refl _ _).alloc (Nat.le_refl _) _)⟩
  · have hn : n ≤ 125 := by omega
    by_cases hi : i = 0
    · subst hi
      have hm : (m == 0) = false := beq_eq_false_iff_ne.2 (by omega)
      clear h
      go_enter Try.func42, Try.ntmps42
      go_wp2
      go_ret
      exact ⟨rfl, ((Below.refl _ _).alloc (Nat.le_refl _) _)⟩
    · have hi : (i == 0) = false := beq_eq_false_iff_ne.2 hi
      clear h
      go_enter Try.func42, Try.ntmps42
      go_wp2
      go_ret
      exact ⟨rfl, ((Below.refl _ _).alloc (Nat.le_refl _) _)⟩

set_option maxRecDepth 100000 in
set_option maxHeartbeats 1000000 in
theorem rPlain_any {w : World} {B : Nat} {A : Option Addr} {e : Ent} {l : List Ent} {c : Nat} {base i m v : Int} (cl : Int) (h : Reads w B 3 A (l.length + 1) (entCells (e :: l))) (hs : l.length + 1 ≤ 126) :
    Calls Try.prog 44 #[refV base A (l.length + 1) c i m v, .int .u8 cl] w fun r w' => r = .returned (.tuple #[.int .i8 e.lv, .int .u8 (plainCls cl e.ov)]) ∧ Below w.heap.size w w' := by
  unfold plainCls
  by_cases ho : e.ov = 0
  · rw [if_neg (by simp [ho])]
    have ho' : (e.ov != 0) = false := by simp [ho]
    go_enter Try.func44, Try.ntmps44
    go_wp2_with (go_at_call 45; refine (rLast_any (h.alloc _) hs).mono ?_; rintro r w1 ⟨rfl, hb1⟩)
    all_goals (go_ret2; exact ⟨rfl, ((((Below.refl _ _).alloc (Nat.le_refl _) _).trans (hb1.mono (by simp))).alloc (by have := hb1.size; simp at this; omega) _)⟩)
  · rw [if_pos ho]
    have ho' : (e.ov != 0) = true := by simp [ho]
    go_enter Try.func44, Try.ntmps44
    go_wp2_with (go_at_call 45; refine (rLast_any (h.alloc _) hs).mono ?_; rintro r w1 ⟨rfl, hb1⟩)
    refine wp_region_reads (by kernel_rfl) (by kernel_rfl) ?_
    repeat (refine still_plain rfl rfl ?_; intro K hK; go_wp2)
    refine wpStill_nil ?_
    go_wp2
    go_ret2
    exact ⟨rfl, ((((Below.refl _ _).alloc (Nat.le_refl _) _).trans (hb1.mono (by simp))).alloc (by have := hb1.size; simp at this; omega) _).drew⟩
end Go.Proofs.Ytfelcmppopibcaa
