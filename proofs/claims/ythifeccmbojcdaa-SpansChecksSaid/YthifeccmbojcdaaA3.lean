/- A sequence that comes in, as it is read: its five fields. -/
import Derived.Test.YthifeccmbojcdaaA1
import Derived.Test.YthifeccmbojcdaaH2
import Derived.Lib.SmallJoins
import Derived.SizedLaws
namespace Go.Proofs.Ythifeccmbojcdaa
open Go.Joins Go.ChangeShapes Go.WideShapes Go.RowKit Go.Deep

section
variable {H : Type} {enc : TypeId × Value → H} {P : Program} {w : World} {base : Nat} {spare : Nat → Bool} {held : Bool}
theorem open_agg5 {r : Reach} {b0 : Nat} {t : TypeId} {f0 f1 f2 f3 f4 : Field} {v : Value} {d : DataW H} {p : List MemPlace} (hs : P.underlying t = some (.struct #[f0, f1, f2, f3, f4])) (hone : oneCellFields P #[f0, f1, f2, f3, f4] = true) (hC : P.cellsOf t = 5)
    (hv : Value.okWide P w r b0 t v) (h : DataW.Trod enc P w base spare held t v d p) :
    ∃ (v0 v1 v2 v3 v4 : Value) (y0 y1 y2 y3 y4 : DataW H × List MemPlace) (n : Nat), v = .agg #[v0, v1, v2, v3, v4] ∧ d = .agg [y0.1, y1.1, y2.1, y3.1, y4.1] ∧
      DataW.trod enc P w base spare held n f0.type [v0] = some y0 ∧ DataW.trod enc P w base spare held n f1.type [v1] = some y1 ∧ DataW.trod enc P w base spare held n f2.type [v2] = some y2 ∧ DataW.trod enc P w base spare held n f3.type [v3] = some y3 ∧ DataW.trod enc P w base spare held n f4.type [v4] = some y4 := by
  obtain ⟨cs, rfl, hsz⟩ := okWide_struct hs hv
  obtain ⟨l⟩ := cs
  match l, hsz.trans hC with
  | [c0, c1, c2, c3, c4], _ =>
    obtain ⟨fuel, hf⟩ := h
    obtain ⟨xs, n, _, hx, _, hlen, hg⟩ := DataW.trod_struct hs hf
    obtain ⟨o0, k0⟩ := hone_of hone 0 f0 rfl
    obtain ⟨o1, k1⟩ := hone_of hone 1 f1 rfl
    obtain ⟨o2, k2⟩ := hone_of hone 2 f2 rfl
    obtain ⟨o3, k3⟩ := hone_of hone 3 f3 rfl
    obtain ⟨o4, k4⟩ := hone_of hone 4 f4 rfl
    match xs, hlen with
    | [y0, y1, y2, y3, y4], _ =>
      simp only [Prod.mk.injEq] at hx
      exact ⟨c0, c1, c2, c3, c4, y0, y1, y2, y3, y4, n, rfl, by simpa using hx.1, by simpa [Value.cells, o0, k0] using hg 0 f0 rfl, by simpa [Value.cells, o1, k1] using hg 1 f1 rfl, by simpa [Value.cells, o2, k2] using hg 2 f2 rfl, by simpa [Value.cells, o3, k3] using hg 3 f3 rfl, by simpa [Value.cells, o4, k4] using hg 4 f4 rfl⟩
/-- A slice of integers among the fields. -/
theorem open_row {t e : TypeId} {k : IntKind} {fuel : Nat} {v : Value} {x : DataW H × List MemPlace} {b : Nat} (ht : P.underlying t = some (.slice e)) (he : P.underlying e = some (.int k)) (hC : P.cellsOf e = 1) (hb : P.bytesOf e = b)
    (h : DataW.trod enc P w 0 (fun _ => true) held fuel t [v] = some x) (hw : ∀ n ∈ x.1.weights P t, n ≤ reachBytes) :
    ∃ A n c l, v = .slice A n c ∧ n = l.length ∧ RdInts w w.heap.size k A l ∧ n * b ≤ reachBytes := by
  rcases open_ints ht he hC h with ⟨hcs, _⟩ | ⟨a, l, c, zs, hcs, _, hl, hm, hz, hx, hcell, hwz⟩
  · simp only [List.cons.injEq, and_true] at hcs
    subst hcs
    exact ⟨none, 0, 0, [], rfl, rfl, Reads.none_, by simp⟩
  · simp only [List.cons.injEq, and_true] at hcs
    subst hcs
    simp only [if_true] at hz
    obtain ⟨l', h1, h2, h3, h4, h5⟩ := rd_of_row (k := k) (w := w) (a := some a) (len := l) (cap := c) (zs := zs) (.inr ⟨a, rfl, hl, hm, hz, hcell, hwz⟩)
    refine ⟨some a, l, c, l', rfl, h1.symm, h4, ?_⟩
    subst hx
    have := hw _ (by simp only [DataW.weights, ht]; exact List.mem_cons_self)
    rw [hb] at this
    refine Nat.le_trans (Nat.mul_le_mul_right b ?_) this
    simp [lits]
    omega
end

set_option maxRecDepth 100000 in
theorem open_seq {H : Type} {enc : TypeId × Value → H} {W : World} {b0 : Nat} {r : Reach} {v : Value} {d : DataW H} {p : List MemPlace} (hv : Value.okWide Try.prog W r b0 58 v) (h : DataW.Trod enc Try.prog W 0 (fun _ => true) true 58 v d p)
    (hw : ∀ n ∈ d.weights Try.prog 58, n ≤ reachBytes) :
    ∃ A n c C m e, ∃ s : Sq, v = .agg (s.is (.slice A n c) (.slice C m e)) ∧ n = s.pl.length ∧ m = s.cs.length ∧ RdInts W W.heap.size .i64 A s.pl ∧ RdInts W W.heap.size .u8 C s.cs ∧ n * 8 ≤ reachBytes ∧ m * 1 ≤ reachBytes := by
  obtain ⟨v0, v1, v2, v3, v4, y0, y1, y2, y3, y4, n, rfl, rfl, t0, t1, t2, t3, t4⟩ := open_agg5 Try.underlying58 (by kernel_rfl) (by kernel_rfl) hv h
  have e : ∀ z, (z ∈ y0.1.weights Try.prog 24 ∨ z ∈ y1.1.weights Try.prog 22) → z ∈ (DataW.agg [y0.1, y1.1, y2.1, y3.1, y4.1]).weights Try.prog 58 := by
    intro z hz
    simp only [DataW.weights, Try.underlying58]
    rcases hz with hz | hz <;> simp [DataW.weightsEach, hz]
  obtain ⟨A, n0, c, pl, rfl, hn, R0, L0⟩ := open_row Try.underlying24 Try.underlying3 (by kernel_rfl) (b := 8) (by kernel_rfl) t0 (fun z hz => hw z (e z (.inl hz)))
  obtain ⟨C, m0, c', cs, rfl, hm, R1, L1⟩ := open_row Try.underlying22 Try.underlying38 (by kernel_rfl) (b := 1) (by kernel_rfl) t1 (fun z hz => hw z (e z (.inr hz)))
  obtain ⟨lv, h2, _⟩ := DataW.trod_int Try.underlying40 t2
  obtain ⟨so, h3, _⟩ := DataW.trod_int Try.underlying38 t3
  obtain ⟨eo, h4, _⟩ := DataW.trod_int Try.underlying38 t4
  simp only [List.cons.injEq, and_true] at h2 h3 h4
  subst h2 h3 h4
  exact ⟨A, n0, c, C, m0, c', ⟨pl, cs, lv, so, eo⟩, rfl, hn, hm, R0, R1, L0, L1⟩
end Go.Proofs.Ythifeccmbojcdaa
