/- Explicit, the program's and the reference's: one answer for every base and every list. -/
import Derived.Test.YtfelcmppopibcaaE5
import Derived.Test.YtfelcmppopibcaaE6
namespace Go.Proofs.Ytfelcmppopibcaa
open Go.RowKit

/-- Levels, classes, matches and the error. -/
structure Exp where
  L : List Int
  C : List Int
  M : List Int
  e : Int
def exA (base : Int) (l : List Int) : Exp :=
  if base ≠ 0 ∧ base ≠ 1 then ⟨[], [], [], 160⟩ else if 1048576 < l.length then ⟨[], [], [], 4⟩
  else ⟨(runS base l (auP l) l.length).2.1, (runS base l (auP l) l.length).2.2, matchL l, 0⟩
theorem exA_len (base : Int) (l : List Int) : (exA base l).L.length ≤ 1048576 ∧ (exA base l).C.length ≤ 1048576 ∧ (exA base l).M.length ≤ 1048576 := by
  obtain ⟨h1, h2⟩ := runS_len base l (auP l) l.length
  have h3 := (matchL_inv l).len
  unfold exA
  split
  · simp
  · split
    · simp
    · simp only; omega

/-- An answer in memory of its own. -/
structure ExpIs (w : World) (B : Nat) (x : Exp) (lA cA mA : Option Addr) (lc cc mc : Nat) : Prop where
  l : Ints w B 23 .i8 (.slice lA x.L.length lc) x.L
  c : Ints w B 40 .u8 (.slice cA x.C.length cc) x.C
  m : Ints w B 3 .i64 (.slice mA x.M.length mc) x.M
theorem ExpIs.frm {w w' : World} {B : Nat} {x : Exp} {lA cA mA : Option Addr} {lc cc mc : Nat} {F : Nat → Prop} (h : ExpIs w B x lA cA mA lc cc mc) (hf : Frm F w w') (hF : ∀ k, B ≤ k → k < w.heap.size → ¬ F k) : ExpIs w' B x lA cA mA lc cc mc :=
  ⟨h.l.frm hf (fun j hj => hF j (h.l.lt j hj).1 (h.l.lt j hj).2), h.c.frm hf (fun j hj => hF j (h.c.lt j hj).1 (h.c.lt j hj).2), h.m.frm hf (fun j hj => hF j (h.m.lt j hj).1 (h.m.lt j hj).2)⟩
theorem ExpIs.below {w w' : World} {B : Nat} {x : Exp} {lA cA mA : Option Addr} {lc cc mc : Nat} (h : ExpIs w B x lA cA mA lc cc mc) (hb : Below w.heap.size w w') : ExpIs w' B x lA cA mA lc cc mc :=
  h.frm (Frm.of_below (F := fun _ => False) hb) (fun _ _ _ e => e)
theorem ExpIs.alloc {w : World} {B : Nat} {x : Exp} {lA cA mA : Option Addr} {lc cc mc : Nat} (h : ExpIs w B x lA cA mA lc cc mc) (o : Obj) : ExpIs (w.alloc o) B x lA cA mA lc cc mc := ⟨h.l.alloc o, h.c.alloc o, h.m.alloc o⟩

theorem own_slice (A : Option Addr) (n c : Nat) : (Value.slice A n c).ownBlock = A.map (fun a => a.block) := by cases A <;> rfl
/-- Its three parts lie apart. -/
def Apart (lA cA mA : Option Addr) : Prop :=
  (∀ j, lA.map (fun a => a.block) = some j → cA.map (fun a => a.block) ≠ some j ∧ mA.map (fun a => a.block) ≠ some j) ∧ ∀ j, cA.map (fun a => a.block) = some j → mA.map (fun a => a.block) ≠ some j

theorem Explicit_all {w : World} {B : Nat} {A : Option Addr} {c : Nat} {l : List Int} (base : Int) (h : RdInts w B .u8 A l) (hB : B ≤ w.heap.size) :
    Calls Try.prog 12 #[.int .i8 base, .slice A l.length c] w fun r w' => ∃ lA lc cA cc mA mc, r = .returned (.tuple #[.agg #[.slice lA (exA base l).L.length lc, .slice cA (exA base l).C.length cc, .slice mA (exA base l).M.length mc], .int .i64 (exA base l).e]) ∧
      ExpIs w' w.heap.size (exA base l) lA cA mA lc cc mc ∧ Apart lA cA mA ∧ Below w.heap.size w w' := by
  unfold exA
  split
  · rename_i hb
    refine (Explicit_no w base hb.1 hb.2 A l.length c).mono ?_
    rintro r w' ⟨rfl, b⟩
    exact ⟨none, 0, none, 0, none, 0, rfl, ⟨Ints.nil _ _ _ _, Ints.nil _ _ _ _, Ints.nil _ _ _ _⟩, ⟨by simp, by simp⟩, b⟩
  · rename_i hb
    have hb : base = 0 ∨ base = 1 := by omega
    split
    · rename_i hl
      refine (Explicit_long w base hb A l.length c hl).mono ?_
      rintro r w' ⟨rfl, b⟩
      exact ⟨none, 0, none, 0, none, 0, rfl, ⟨Ints.nil _ _ _ _, Ints.nil _ _ _ _, Ints.nil _ _ _ _⟩, ⟨by simp, by simp⟩, b⟩
    · rename_i hl
      refine (Explicit_n base rfl hb h hB (by omega)).mono ?_
      rintro r w' ⟨lA, lc, cA, cc, mg, rfl, L, C, M, h1, h2, b⟩
      obtain ⟨e1, e2⟩ := runS_len base l (auP l) l.length
      have e3 := (matchL_inv l).len
      refine ⟨lA, lc, cA, cc, some ⟨mg, 0, none⟩, l.length, ?_, ⟨?_, ?_, ?_⟩, ⟨fun j hj => ?_, fun j hj e => ?_⟩, b⟩
      · simp only [e1, e2, e3]
      · simp only; rw [e1]; exact L
      · simp only; rw [e2]; exact C
      · simp only; rw [e3]; exact M
      · obtain ⟨k1, k2⟩ := h1 j (by rw [own_slice]; exact hj)
        rw [own_slice] at k1
        exact ⟨k1, fun e => k2 (by simpa using e.symm)⟩
      · refine h2 ?_
        have : mg = j := by simpa using e
        rw [this, own_slice]
        exact hj
theorem rExplicit_all {w : World} {B : Nat} {A : Option Addr} {c : Nat} {l : List Int} (base : Int) (h : RdInts w B .u8 A l) (hB : B ≤ w.heap.size) :
    Calls Try.prog 13 #[.int .i8 base, .slice A l.length c] w fun r w' => ∃ lA lc cA cc mA mc, r = .returned (.tuple #[.agg #[.slice lA (exA base l).L.length lc, .slice cA (exA base l).C.length cc, .slice mA (exA base l).M.length mc], .int .i64 (exA base l).e]) ∧
      ExpIs w' w.heap.size (exA base l) lA cA mA lc cc mc ∧ Below w.heap.size w w' := by
  unfold exA
  split
  · rename_i hb
    refine (rExplicit_no w base hb.1 hb.2 A l.length c).mono ?_
    rintro r w' ⟨rfl, b⟩
    exact ⟨none, 0, none, 0, none, 0, rfl, ⟨Ints.nil _ _ _ _, Ints.nil _ _ _ _, Ints.nil _ _ _ _⟩, b⟩
  · rename_i hb
    have hb : base = 0 ∨ base = 1 := by omega
    split
    · rename_i hl
      refine (rExplicit_long w base hb A l.length c hl).mono ?_
      rintro r w' ⟨rfl, b⟩
      exact ⟨none, 0, none, 0, none, 0, rfl, ⟨Ints.nil _ _ _ _, Ints.nil _ _ _ _, Ints.nil _ _ _ _⟩, b⟩
    · rename_i hl
      refine (rExplicit_ok base hb h hB (by omega)).mono ?_
      rintro r w' ⟨lvv, clv, mv, rfl, L, C, M, b⟩
      rw [← au_same] at L C
      obtain ⟨lA, lc, rfl, _⟩ := L.val
      obtain ⟨cA, cc, rfl, _⟩ := C.val
      obtain ⟨mA, mc, rfl, _⟩ := M.val
      exact ⟨lA, lc, cA, cc, mA, mc, rfl, ⟨L, C, M⟩, b⟩
end Go.Proofs.Ytfelcmppopibcaa
