/- The stack's words, without the program. -/
import Derived.Test.YtpdackbcnbhppaaKit
namespace Go.Proofs.Ytpdackbcnbhppaa

structure Ent where
  lv : Int
  ov : Int
  iso : Bool
def Ent.cells (e : Ent) : List Value := [.int .i8 e.lv, .int .u8 e.ov, .bool e.iso]
/-- The cells of a stack's entries: the last one that was put on stands first in the list, last in memory. -/
def entCells (l : List Ent) : List Value := l.reverse.flatMap Ent.cells
theorem entCells_cons (e : Ent) (l : List Ent) : entCells (e :: l) = entCells l ++ e.cells := by simp [entCells]
theorem entCells_length (l : List Ent) : (entCells l).length = l.length * 3 := by
  induction l with
  | nil => rfl
  | cons e l ih => rw [entCells_cons, List.length_append, ih]; simp [Ent.cells]; omega
theorem ent_one (l : List Ent) : ∀ u ∈ entCells l, u.oneCell' = true := by
  intro u hu
  simp only [entCells, List.mem_flatMap] at hu
  obtain ⟨e, _, hu⟩ := hu
  simp [Ent.cells] at hu
  rcases hu with rfl | rfl | rfl <;> rfl
def plainCls (c ov : Int) : Int := if ov ≠ 0 then ov else if c < 1 ∨ 23 < c then 14 else c
def nextLv (odd : Bool) (lv : Int) : Int := if (decide (lv % 2 = 0)) = odd then lv + 1 else lv + 1 + 1
def popTo : List Ent → List Ent
  | [] => []
  | e :: l => if e.iso then l else popTo l
end Go.Proofs.Ytpdackbcnbhppaa
