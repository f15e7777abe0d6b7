/- Small words for regions that make variables: rows of records stand, an answer's cells, a store into a fresh variable. -/
import Derived.Test.YtpdackbcnbhppaaD3
import Derived.Test.YtpdackbcnbhppaaR8
namespace Go.Proofs.Ytpdackbcnbhppaa
open Go.RowKit

def aggV : Value → Array Value
  | .agg vs => vs
  | _ => #[]
/-- Cells that hold no number. -/
def noInt (cs : Array Value) : Bool := cs.all fun v => match v with | .int _ _ => false | _ => true
theorem noInt_at {cs : Array Value} (h : noInt cs = true) {j : Nat} {k : IntKind} {n : Int} : cs[j]? ≠ some (.int k n) := fun e => by
  have := Array.all_eq_true_iff_forall_mem.1 h _ (Array.mem_of_getElem? e)
  simp at this
/-- A row of records that begin with a number is no variable without numbers. -/
theorem RdR.var {α : Type} {c : α → List Value} {sz : Nat} {W W' : World} {B : Nat} {A : Option Addr} {l : List α} {F : Nat → Prop} (E : Enc c sz) (hsz : 0 < sz) (hc : ∀ x, ∃ k n, (c x)[0]? = some (.int k n)) (h : RdR c sz W B A l) (hF : Frm F W W')
    (hx : ∀ k, F k → ∃ t cs, Blk W k t cs ∧ noInt cs = true) : RdR c sz W' B A l := by
  rcases l with _ | ⟨x, l⟩
  · exact ⟨by simp, fun hn => by simp at hn⟩
  · refine h.frmA hF fun b off e hb => ?_
    obtain ⟨t, cs, h1, h2⟩ := hx b hb
    obtain ⟨b', off', e', _, _, h3⟩ := h.at_ E (i := 0) (x := x) rfl hsz
    rw [e] at e'
    cases e'
    obtain ⟨k, n, hn⟩ := hc x
    have := h3 0 _ hn
    rw [h1.cell] at this
    exact noInt_at h2 this
theorem RPil.var {W W' : World} {pv : Value} {l f : List (Int × Int)} {ov : Bool} {F : Nat → Prop} (h : RPil W pv l f ov) (hF : Frm F W W') (hx : ∀ k, F k → ∃ t cs, Blk W k t cs ∧ noInt cs = true) : RPil W' pv l f ov := by
  obtain ⟨A, A', c, c', h1, h2, h3, h4, h5⟩ := h
  exact ⟨A, A', c, c', h1, h2, h3, (h4.var encM (by omega) (fun x => ⟨_, _, rfl⟩) hF hx).more hF.size, (h5.var encB (by omega) (fun x => ⟨_, _, rfl⟩) hF hx).more hF.size⟩
end Go.Proofs.Ytpdackbcnbhppaa
