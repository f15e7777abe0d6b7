/- The two tables of utf8, as the rows list them: what they give, and a world that holds them. -/
import Derived.Test.YtaekdnfpgkfjkaaDoorShelf
import Derived.Test.YtaekdnfpgkfjkaaDoorCards
import Derived.Test.YtaekdnfpgkfjkaaDoorTie
import Derived.WalkKit
import Derived.ProofKit
import Derived.OpenShut
import Derived.Deep.DeepHandedRow
import Derived.Deep.DeepWitnessRowRef
import Derived.Lib.LaidIn
import Derived.Lib.LaidU8T
namespace Go.Proofs.YtaekdnfpgkfjkaaDoor
open Go.ChangeShapes Go.WideShapes Go.ChangeAt Go.RowKit Go.Lib

theorem own24 : ownKnob Tryd.prog.godebug = none := by kernel_rfl
def laid24 : List (String × DataW Unit) := [("unicode/utf8.acceptRanges", Rows.laid_unicode_utf8_acceptRanges), ("unicode/utf8.first", Rows.laid_unicode_utf8_first)]
theorem data_acc : (Rows.laid_unicode_utf8_acceptRanges : DataW Unit) = acceptData := by kernel_rfl
theorem data_first : Rows.laid_unicode_utf8_first = firstData := by kernel_rfl
theorem tabs_of_laid {W : World} (h : laidMet Tryd.prog laid24 W) : Lib.Utf8Tabs 0 1 W :=
  utf8Tabs_of_readsT (ρ := Tryd.lays197_ren) { Tryd.lays197 with } ⟨by kernel_rfl, by kernel_rfl, by kernel_rfl, by kernel_rfl, by kernel_rfl, by kernel_rfl, by kernel_rfl⟩
    (Lib.laidMet.reads h (by rw [← data_first]; exact .tail _ (.head _))) (Lib.laidMet.reads h (by rw [← data_acc]; exact .head _))
theorem size_of_tabs {W : World} (h : Lib.Utf8Tabs 0 1 W) : 2 ≤ W.heap.size := by
  have h1 := (h.2 0 (by decide)).1
  rcases Nat.lt_or_ge 1 W.heap.size with hlt | hge
  · exact hlt
  · unfold World.cell? at h1
    rw [Array.getElem?_eq_none hge] at h1
    cases h1

/-- A world for the witness. -/
noncomputable def laidWorld (os : Os) (o : Array Obj) : World :=
  let w0 := World.holding Tryd.prog os ⟨o, #[], []⟩
  let put (h : Array Obj) (g : Nat) (cs : Array Value) : Array Obj := h.modify g fun
    | .cells _ t frozen => .cells cs t frozen
    | o => o
  let h1 := put w0.heap 0 (Lib.firstTab.map fun z => Value.int .u8 z).toArray
  let h2 := put h1 1 ((List.range 16).flatMap fun i => [Value.int .u8 (Lib.accLo i), Value.int .u8 (Lib.accHi i)]).toArray
  { w0 with heap := h2 }
theorem laid_met (os : Os) (args : Array Value) : laidMet Tryd.prog laid24 ((laidWorld os #[]).forCall (fun _ _ => 0) ⟨#[], args, []⟩).memory :=
  (LaidIn.of_run [1, 0] 8 (by kernel_rfl) (by kernel_rfl) (by kernel_rfl) (by kernel_rfl)).met
end Go.Proofs.YtaekdnfpgkfjkaaDoor
