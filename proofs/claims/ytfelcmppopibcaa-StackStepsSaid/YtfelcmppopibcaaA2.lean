/- The steps of a script that comes in, as they are read. -/
import Derived.Test.YtfelcmppopibcaaA1
import Derived.Test.YtfelcmppopibcaaChecked
import Derived.Deep.Slices
namespace Go.Proofs.Ytfelcmppopibcaa
open Go.RowKit Go.Deep Go.ChangeShapes

/-- A script: each step has its five cells. -/
def StepsRd (w : World) (B : Nat) (A : Option Addr) (n : Nat) : Prop :=
  0 < n → ∃ b off, A = some ⟨b, off, none⟩ ∧ b < B ∧ b < w.heap.size ∧ ∀ i, i < n → ∃ (x y : Int) (cp : Bool) (cl au : Int), w.cell? ⟨b, off + i * 5, none⟩ = some (.int .i64 x) ∧ w.cell? ⟨b, off + i * 5 + 1, none⟩ = some (.int .i64 y) ∧
    w.cell? ⟨b, off + i * 5 + 2, none⟩ = some (.bool cp) ∧ w.cell? ⟨b, off + i * 5 + 3, none⟩ = some (.int .u8 cl) ∧ w.cell? ⟨b, off + i * 5 + 4, none⟩ = some (.int .i8 au)
theorem StepsRd.below {w w' : World} {B C : Nat} {A : Option Addr} {n : Nat} (h : StepsRd w B A n) (hb : Below C w w') (hC : B ≤ C) : StepsRd w' B A n := by
  intro hn
  obtain ⟨b, off, e, h1, h2, h3⟩ := h hn
  refine ⟨b, off, e, h1, Nat.lt_of_lt_of_le h2 hb.size, fun i hi => ?_⟩
  obtain ⟨x, y, cp, cl, au, k0, k1, k2, k3, k4⟩ := h3 i hi
  have key : ∀ o, w'.cell? ⟨b, o, none⟩ = w.cell? ⟨b, o, none⟩ := fun o => hb.cell (p := ⟨b, o, none⟩) (by simp only; omega)
  exact ⟨x, y, cp, cl, au, by rw [key, k0], by rw [key, k1], by rw [key, k2], by rw [key, k3], by rw [key, k4]⟩

section
variable {H : Type} {enc : TypeId × Value → H} {w : World} {base : Nat} {held : Bool}
theorem steps_of_trod {fuel : Nat} {a : Option Addr} {len cap : Nat} {x : DataW H × List MemPlace} (h : DataW.trod enc Try.prog w base (fun _ => true) held fuel 55 [.slice a len cap] = some x) :
    len ≤ cap ∧ StepsRd w w.heap.size a len := by
  have c64 : Try.prog.cellsOf 64 = 5 := by kernel_rfl
  have k3 : Try.prog.cellsOf 3 = 1 := by kernel_rfl
  have k4 : Try.prog.cellsOf 4 = 1 := by kernel_rfl
  have k40 : Try.prog.cellsOf 40 = 1 := by kernel_rfl
  have k23 : Try.prog.cellsOf 23 = 1 := by kernel_rfl
  rcases open_slice Try.underlying55 h with ⟨h0, _⟩ | ⟨p, len', cap', m, n, D, Pl, h0, hb, hl, hm, hmm, _, hx⟩
  · injection h0 with h0 _
    injection h0 with e1 e2 e3
    subst e1 e2 e3
    exact ⟨Nat.le_refl _, fun h => absurd h (by omega)⟩
  · injection h0 with h0 _
    injection h0 with e1 e2 e3
    subst e1 e2 e3
    refine ⟨hl, fun hn => ?_⟩
    simp only [if_true] at hmm
    subst hmm
    have each : ∀ i, i < len → ∃ (x y : Int) (cp : Bool) (cl au : Int), w.cell? (p.add (i * 5)) = some (.int .i64 x) ∧ w.cell? (p.add (i * 5 + 1)) = some (.int .i64 y) ∧
        w.cell? (p.add (i * 5 + 2)) = some (.bool cp) ∧ w.cell? (p.add (i * 5 + 3)) = some (.int .u8 cl) ∧ w.cell? (p.add (i * 5 + 4)) = some (.int .i8 au) := by
      intro i hi
      obtain ⟨cs, h1, h2⟩ := hx i (by omega)
      rw [c64] at h1
      obtain ⟨_, hlen, hcell⟩ := World.cells?_some h1
      obtain ⟨xs, k, _, _, _, hxl, hf⟩ := DataW.trod_struct Try.underlying64 h2
      have e0 := hcell 0 (by omega)
      have e1 := hcell 1 (by omega)
      have e2 := hcell 2 (by omega)
      have e3 := hcell 3 (by omega)
      have e4 := hcell 4 (by omega)
      rw [add_of_add] at e0 e1 e2 e3 e4
      have g0 : DataW.trod enc Try.prog w base (fun _ => true) held k 3 ((cs.drop 0).take (Try.prog.cellsOf 3)) = xs[0]? := hf 0 _ rfl
      rw [k3] at g0
      have g1 : DataW.trod enc Try.prog w base (fun _ => true) held k 3 ((cs.drop 1).take (Try.prog.cellsOf 3)) = xs[1]? := hf 1 _ rfl
      rw [k3] at g1
      have g2 : DataW.trod enc Try.prog w base (fun _ => true) held k 4 ((cs.drop 2).take (Try.prog.cellsOf 4)) = xs[2]? := hf 2 _ rfl
      rw [k4] at g2
      have g3 : DataW.trod enc Try.prog w base (fun _ => true) held k 40 ((cs.drop 3).take (Try.prog.cellsOf 40)) = xs[3]? := hf 3 _ rfl
      rw [k40] at g3
      have g4 : DataW.trod enc Try.prog w base (fun _ => true) held k 23 ((cs.drop 4).take (Try.prog.cellsOf 23)) = xs[4]? := hf 4 _ rfl
      rw [k23] at g4
      have hx5 : xs.length = 5 := hxl
      rw [List.getElem?_eq_getElem (by omega)] at g0 g1 g2 g3 g4
      obtain ⟨x, q0, _⟩ := DataW.trod_int Try.underlying3 g0
      obtain ⟨y, q1, _⟩ := DataW.trod_int Try.underlying3 g1
      obtain ⟨cp, q2, _⟩ := DataW.trod_bool Try.underlying4 g2
      obtain ⟨cl, q3, _⟩ := DataW.trod_int Try.underlying40 g3
      obtain ⟨au, q4, _⟩ := DataW.trod_int Try.underlying23 g4
      have pick : ∀ (j : Nat) (u : Value), (cs.drop j).take 1 = [u] → cs[j]? = some u := by
        intro j u hj
        have := congrArg (fun z => z[0]?) hj
        simpa [List.getElem?_take, List.getElem?_drop] using this
      exact ⟨x, y, cp, cl, au, e0.trans (pick 0 _ q0), e1.trans (pick 1 _ q1), e2.trans (pick 2 _ q2), e3.trans (pick 3 _ q3), e4.trans (pick 4 _ q4)⟩
    obtain ⟨b, off, spot⟩ := p
    obtain ⟨_, _, _, _, _, z0, _⟩ := each 0 hn
    have hspot : spot = none := by simpa [Addr.add] using World.cell?_spot z0
    subst hspot
    have hlt := World.block_lt_of_cell? _ _ z0
    rw [block_of_add] at hlt
    refine ⟨b, off, rfl, hlt, hlt, fun i hi => ?_⟩
    have := each i hi
    simp only [add_lit, Nat.add_assoc] at this ⊢
    exact this
end
end Go.Proofs.Ytfelcmppopibcaa
