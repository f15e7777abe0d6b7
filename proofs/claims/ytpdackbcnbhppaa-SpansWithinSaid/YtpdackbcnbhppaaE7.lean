/- Explicit's refusals. Explicit, as the laws call it; the reference's refusals. Explicit, the program's and the reference's: one answer for every base and every list. -/
import Derived.Test.YtpdackbcnbhppaaE1
import Derived.Test.YtpdackbcnbhppaaE3
namespace Go.Proofs.Ytpdackbcnbhppaa
open Go.RowKit
set_option maxRecDepth 100000 in
set_option maxHeartbeats 1000000 in
theorem Explicit_no (w : World) (base : Int) (h0 : base ≠ 0) (h1 : base ≠ 1) (A : Option Addr) (n c : Nat) :
    Calls Try.prog 54 #[.int .i8 base, .slice A n c] w fun r w' => r = .returned (.tuple #[.agg #[.slice none 0 0, .slice none 0 0, .slice none 0 0], .int .i64 160]) ∧ Below w.heap.size w w' := by
  go_enter Try.func54, Try.ntmps54
  go_wp2_with (go_at_call 83; refine (New_no _ base h0 h1).mono ?_; rintro r1 w1 ⟨rfl, rfl⟩)
  refine bodyPost_ret (results_row1 rfl _ _ _ _ _ _ rfl (Blk.new w 40 _) Try.underlying40 rfl (by kernel_rfl)) rfl ⟨rfl, (Below.refl _ _).alloc (Nat.le_refl _) _⟩
set_option maxRecDepth 100000 in
set_option maxHeartbeats 1000000 in
theorem Explicit_long (w : World) (base : Int) (hb : base = 0 ∨ base = 1) (A : Option Addr) (n c : Nat) (hn : 1048576 < n) :
    Calls Try.prog 54 #[.int .i8 base, .slice A n c] w fun r w' => r = .returned (.tuple #[.agg #[.slice none 0 0, .slice none 0 0, .slice none 0 0], .int .i64 4]) ∧ Below w.heap.size w w' := by
  have hn' : (1048576 : Int) < n := by omega
  go_enter Try.func54, Try.ntmps54
  go_wp2_with (go_at_call 83; refine (New_ok _ base hb).mono ?_; rintro r1 w1 ⟨rfl, S1, b1⟩; have R1 := (Blk.new w 40 #[.slice none 0 0, .slice none 0 0, .slice none 0 0]).below b1 (by simp); obtain ⟨y1, y2, y3, y4, y5⟩ := R1.c3)
  refine bodyPost_ret (results_row1 rfl _ _ _ _ _ _ rfl (blk_put3 _ _ _ R1) Try.underlying40 rfl (by kernel_rfl)) rfl ⟨rfl, ?_⟩
  exact (((Below.refl _ _).alloc (Nat.le_refl _) _).trans (b1.mono (by simp))).trans ((frm_put3 _ _ _ _ _).below (by have := b1.size; simp at this; omega) (fun k hk => by omega))
end Go.Proofs.Ytpdackbcnbhppaa

namespace Go.Proofs.Ytpdackbcnbhppaa
open Go.RowKit

theorem Explicit_n {w : World} {B n : Nat} {A : Option Addr} {c : Nat} {l : List Int} (base : Int) (hn : l.length = n) (hbase : base = 0 ∨ base = 1) (h : RdInts w B .u8 A l) (hB : B ≤ w.heap.size) (hl : n ≤ 1048576) :
    Calls Try.prog 54 #[.int .i8 base, .slice A n c] w fun r w' => ∃ lA lc cA cc mg, r = .returned (.tuple #[.agg #[.slice lA n lc, .slice cA n cc, .slice (some ⟨mg, 0, none⟩) n n], .int .i64 0]) ∧
      Ints w' w.heap.size 23 .i8 (.slice lA n lc) (runS base l (auP l) n).2.1 ∧ Ints w' w.heap.size 28 .u8 (.slice cA n cc) (runS base l (auP l) n).2.2 ∧ Ints w' w.heap.size 3 .i64 (.slice (some ⟨mg, 0, none⟩) n n) (matchL l) ∧
      (∀ j, (Value.slice lA n lc).ownBlock = some j → (Value.slice cA n cc).ownBlock ≠ some j ∧ j ≠ mg) ∧ (Value.slice cA n cc).ownBlock ≠ some mg ∧ Below w.heap.size w w' := by
  subst hn
  refine (Explicit_ok base hbase h hB hl).mono ?_
  rintro r w' ⟨lvv, clv, mg, rfl, L, C, M, h1, h2, b⟩
  obtain ⟨e1, e2⟩ := runS_len base l (auP l) l.length
  obtain ⟨lA, lc, rfl, _⟩ := L.val
  obtain ⟨cA, cc, rfl, _⟩ := C.val
  rw [e1] at L h1 ⊢
  rw [e2] at C h1 h2 ⊢
  exact ⟨lA, lc, cA, cc, mg, rfl, L, C, M, h1, h2, b⟩

end Go.Proofs.Ytpdackbcnbhppaa

namespace Go.Proofs.Ytpdackbcnbhppaa
open Go.RowKit

/-- Levels, classes, matches and the error. -/
structure Exp where
  L : List Int
  C : List Int
  M : List Int
  e : Int
def exA (base : Int) (l : List Int) : Exp :=
  if base ≠ 0 ∧ base ≠ 1 then ⟨[], [], [], 160⟩ else if 1048576 < l.length then ⟨[], [], [], 4⟩
  else ⟨(runS base l (auP l) l.length).2.1, (runS base l (auP l) l.length).2.2, matchL l, 0⟩
theorem exA_len (base : Int) (l : List Int) : (exA base l).L.length ≤ 1048576 ∧ (exA base l).C.length ≤ 1048576 ∧ (exA base l).M.length ≤ 1048576 := by
  obtain ⟨h1, h2⟩ := runS_len base l (auP l) l.length
  have h3 := (matchL_inv l).len
  unfold exA
  split
  · simp
  · split
    · simp
    · simp only; omega

/-- An answer in memory of its own. -/
structure ExpIs (w : World) (B : Nat) (x : Exp) (lA cA mA : Option Addr) (lc cc mc : Nat) : Prop where
  l : Ints w B 23 .i8 (.slice lA x.L.length lc) x.L
  c : Ints w B 28 .u8 (.slice cA x.C.length cc) x.C
  m : Ints w B 3 .i64 (.slice mA x.M.length mc) x.M
theorem ExpIs.frm {w w' : World} {B : Nat} {x : Exp} {lA cA mA : Option Addr} {lc cc mc : Nat} {F : Nat → Prop} (h : ExpIs w B x lA cA mA lc cc mc) (hf : Frm F w w') (hF : ∀ k, B ≤ k → k < w.heap.size → ¬ F k) : ExpIs w' B x lA cA mA lc cc mc :=
  ⟨h.l.frm hf (fun j hj => hF j (h.l.lt j hj).1 (h.l.lt j hj).2), h.c.frm hf (fun j hj => hF j (h.c.lt j hj).1 (h.c.lt j hj).2), h.m.frm hf (fun j hj => hF j (h.m.lt j hj).1 (h.m.lt j hj).2)⟩
theorem ExpIs.below {w w' : World} {B : Nat} {x : Exp} {lA cA mA : Option Addr} {lc cc mc : Nat} (h : ExpIs w B x lA cA mA lc cc mc) (hb : Below w.heap.size w w') : ExpIs w' B x lA cA mA lc cc mc :=
  h.frm (Frm.of_below (F := fun _ => False) hb) (fun _ _ _ e => e)
theorem ExpIs.alloc {w : World} {B : Nat} {x : Exp} {lA cA mA : Option Addr} {lc cc mc : Nat} (h : ExpIs w B x lA cA mA lc cc mc) (o : Obj) : ExpIs (w.alloc o) B x lA cA mA lc cc mc := ⟨h.l.alloc o, h.c.alloc o, h.m.alloc o⟩

theorem own_slice (A : Option Addr) (n c : Nat) : (Value.slice A n c).ownBlock = A.map (fun a => a.block) := by cases A <;> rfl
/-- Its three parts lie apart. -/
def Apart (lA cA mA : Option Addr) : Prop :=
  (∀ j, lA.map (fun a => a.block) = some j → cA.map (fun a => a.block) ≠ some j ∧ mA.map (fun a => a.block) ≠ some j) ∧ ∀ j, cA.map (fun a => a.block) = some j → mA.map (fun a => a.block) ≠ some j

theorem Explicit_all {w : World} {B : Nat} {A : Option Addr} {c : Nat} {l : List Int} (base : Int) (h : RdInts w B .u8 A l) (hB : B ≤ w.heap.size) :
    Calls Try.prog 54 #[.int .i8 base, .slice A l.length c] w fun r w' => ∃ lA lc cA cc mA mc, r = .returned (.tuple #[.agg #[.slice lA (exA base l).L.length lc, .slice cA (exA base l).C.length cc, .slice mA (exA base l).M.length mc], .int .i64 (exA base l).e]) ∧
      ExpIs w' w.heap.size (exA base l) lA cA mA lc cc mc ∧ Apart lA cA mA ∧ Below w.heap.size w w' := by
  unfold exA
  split
  · rename_i hb
    refine (Explicit_no w base hb.1 hb.2 A l.length c).mono ?_
    rintro r w' ⟨rfl, b⟩
    exact ⟨none, 0, none, 0, none, 0, rfl, ⟨Ints.nil _ _ _ _, Ints.nil _ _ _ _, Ints.nil _ _ _ _⟩, ⟨by simp, by simp⟩, b⟩
  · rename_i hb
    have hb : base = 0 ∨ base = 1 := by omega
    split
    · rename_i hl
      refine (Explicit_long w base hb A l.length c hl).mono ?_
      rintro r w' ⟨rfl, b⟩
      exact ⟨none, 0, none, 0, none, 0, rfl, ⟨Ints.nil _ _ _ _, Ints.nil _ _ _ _, Ints.nil _ _ _ _⟩, ⟨by simp, by simp⟩, b⟩
    · rename_i hl
      refine (Explicit_n base rfl hb h hB (by omega)).mono ?_
      rintro r w' ⟨lA, lc, cA, cc, mg, rfl, L, C, M, h1, h2, b⟩
      obtain ⟨e1, e2⟩ := runS_len base l (auP l) l.length
      have e3 := (matchL_inv l).len
      refine ⟨lA, lc, cA, cc, some ⟨mg, 0, none⟩, l.length, ?_, ⟨?_, ?_, ?_⟩, ⟨fun j hj => ?_, fun j hj e => ?_⟩, b⟩
      · simp only [e1, e2, e3]
      · simp only; rw [e1]; exact L
      · simp only; rw [e2]; exact C
      · simp only; rw [e3]; exact M
      · obtain ⟨k1, k2⟩ := h1 j (by rw [own_slice]; exact hj)
        rw [own_slice] at k1
        exact ⟨k1, fun e => k2 (by simpa using e.symm)⟩
      · refine h2 ?_
        have : mg = j := by simpa using e
        rw [this, own_slice]
        exact hj
end Go.Proofs.Ytpdackbcnbhppaa
