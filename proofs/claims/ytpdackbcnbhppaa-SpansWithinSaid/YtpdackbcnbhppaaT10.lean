/- The chapter's own check that the program lives. -/
import Derived.Test.YtpdackbcnbhppaaT8
import Derived.Test.YtpdackbcnbhppaaT9
namespace Go.Proofs.Ytpdackbcnbhppaa
open Go.RowKit
attribute [local go_sem] Oper.semAt_some

theorem rd_lit {w : World} {g : Nat} {t : TypeId} {k : IntKind} {l : List Int} (h : Blk w g t (l.map (.int k)).toArray) : RdInts w w.heap.size k (some ⟨g, 0, none⟩) l := by
  have := Reads.blk (n := l.length) (size := 1) h (by simp)
  simpa [RdInts] using this
theorem sq_cells : ∀ (L : List (Sq × Value × Value)) (i j : Nat) (e : Sq × Value × Value), L[i]? = some e → j < 5 → (L.flatMap sqCells)[i * 5 + j]? = (sqCells e)[j]?
  | [], i, j, e, h, _ => by simp at h
  | a :: L, 0, j, e, h, hj => by
    have h : a = e := by simpa using h
    subst h
    rw [List.flatMap_cons, List.getElem?_append_left (by simp [sqCells, Sq.is]; omega)]
    simp
  | a :: L, i + 1, j, e, h, hj => by
    rw [List.flatMap_cons, List.getElem?_append_right (by simp [sqCells, Sq.is]; omega)]
    have := sq_cells L i j e (by simpa using h) hj
    rw [← this]
    congr 1
    simp [sqCells, Sq.is]
    omega

/-- What stands in the row of sequences, and what their slices read. -/
theorem SqsAt.get {W : World} {B n cap g : Nat} {L : List (Sq × Value × Value)} (h : SqsAt W B (.slice (some ⟨g, 0, none⟩) n cap) L) {i : Nat} {e : Sq × Value × Value} (he : L[i]? = some e) :
    ∃ A c C d, e.2.1 = .slice A e.1.pl.length c ∧ e.2.2 = .slice C e.1.cs.length d ∧ W.cell? ⟨g, i * 5, none⟩ = some (.slice A e.1.pl.length c) ∧ W.cell? ⟨g, i * 5 + 1, none⟩ = some (.slice C e.1.cs.length d) ∧ W.cell? ⟨g, i * 5 + 2, none⟩ = some (.int .i8 e.1.lv) ∧ W.cell? ⟨g, i * 5 + 3, none⟩ = some (.int .u8 e.1.so) ∧ W.cell? ⟨g, i * 5 + 4, none⟩ = some (.int .u8 e.1.eo) ∧
      RdInts W W.heap.size .i64 A e.1.pl ∧ RdInts W W.heap.size .u8 C e.1.cs := by
  obtain ⟨i1, i2, _⟩ := h.each e (List.mem_of_getElem? he)
  obtain ⟨A, c, e1, _, _, r1⟩ := i1.val
  obtain ⟨C, d, e2, _, _, r2⟩ := i2.val
  have hn : n = L.length := by
    rcases h.row.2 with ⟨h0, _⟩ | ⟨_, _, _, hv, _⟩
    · cases h0
    · injection hv
  subst hn
  have key : ∀ j u, j < 5 → (sqCells e)[j]? = some u → W.cell? ⟨g, i * 5 + j, none⟩ = some u := fun j u hj hu => by
    have := World.ownsRow.cells h.row (g := g) rfl (i * 5 + j) u (by rw [sq_cells L i j e he hj]; exact hu)
    rwa [add_lit, Nat.zero_add] at this
  refine ⟨A, c, C, d, e1, e2, key 0 _ (by omega) ?_, key 1 _ (by omega) ?_, key 2 _ (by omega) rfl, key 3 _ (by omega) rfl, key 4 _ (by omega) rfl, r1, r2⟩
  · rw [← e1]; rfl
  · rw [← e2]; rfl

theorem two_sqs {W : World} {B : Nat} {ov : Value} {s0 s1 : Sq} (h : SqsOwn W B ov [s0, s1]) : ∃ g cap A0 k0 C0 j0 A1 k1 C1 j1, ov = .slice (some ⟨g, 0, none⟩) 2 cap ∧ g < W.heap.size ∧
    W.cell? ⟨g, 0, none⟩ = some (.slice A0 s0.pl.length k0) ∧ W.cell? ⟨g, 1, none⟩ = some (.slice C0 s0.cs.length j0) ∧ W.cell? ⟨g, 2, none⟩ = some (.int .i8 s0.lv) ∧ W.cell? ⟨g, 3, none⟩ = some (.int .u8 s0.so) ∧ W.cell? ⟨g, 4, none⟩ = some (.int .u8 s0.eo) ∧
    W.cell? ⟨g, 5, none⟩ = some (.slice A1 s1.pl.length k1) ∧ W.cell? ⟨g, 6, none⟩ = some (.slice C1 s1.cs.length j1) ∧ W.cell? ⟨g, 7, none⟩ = some (.int .i8 s1.lv) ∧ W.cell? ⟨g, 8, none⟩ = some (.int .u8 s1.so) ∧ W.cell? ⟨g, 9, none⟩ = some (.int .u8 s1.eo) ∧
    RdInts W W.heap.size .i64 A0 s0.pl ∧ RdInts W W.heap.size .u8 C0 s0.cs ∧ RdInts W W.heap.size .i64 A1 s1.pl ∧ RdInts W W.heap.size .u8 C1 s1.cs := by
  obtain ⟨L, hL, hS⟩ := h
  have hl : L.length = 2 := by have := congrArg List.length hL; simpa using this
  obtain ⟨g, cap, rfl, _, hg⟩ := World.ownsRow.form hS.row (by omega)
  have g0 : (L.map (·.1))[0]? = some s0 := by rw [hL]; rfl
  have g1 : (L.map (·.1))[1]? = some s1 := by rw [hL]; rfl
  rw [List.getElem?_map] at g0 g1
  obtain ⟨e0, he0, h0⟩ := Option.map_eq_some_iff.1 g0
  obtain ⟨e1, he1, h1⟩ := Option.map_eq_some_iff.1 g1
  obtain ⟨A0, k0, C0, j0, _, _, x0, x1, x2, x3, x4, r0, r1⟩ := hS.get he0
  obtain ⟨A1, k1, C1, j1, _, _, y0, y1, y2, y3, y4, r2, r3⟩ := hS.get he1
  rw [h0] at x0 x1 x2 x3 x4 r0 r1
  rw [h1] at y0 y1 y2 y3 y4 r2 r3
  rw [hl]
  exact ⟨g, cap, A0, k0, C0, j0, A1, k1, C1, j1, rfl, hg, x0, x1, x2, x3, x4, y0, y1, y2, y3, y4, r0, r1, r2, r3⟩

def litK : List Int := [1, 21, 2, 10, 23, 1]
def litV : List Int := [0, 0, 1, -1, 0, 0]
theorem runs_lit : runL litV (keptL litK) = [⟨0, 2, 0⟩, ⟨2, 3, 1⟩, ⟨4, 6, 0⟩] := by
  have e : keptL litK = [0, 1, 2, 4, 5] := by decide
  rw [e]
  simp [runL, grp, spanN, lvAt, litV, toRn]
theorem seqs_lit : seqsL litK litK litV 0 = ([⟨[0, 1, 4, 5], [1, 21, 23, 1], 0, 1, 1⟩, ⟨[2], [2], 1, 2, 2⟩], 0) := by
  have e : keptL litK = [0, 1, 2, 4, 5] := by decide
  unfold seqsL
  rw [if_neg (by decide), if_neg (by decide), runs_lit]
  rfl
end Go.Proofs.Ytpdackbcnbhppaa
