/- What comes in: a paragraph's runes and classes, a sequence, props. -/
import Derived.Test.YtpdackbcnbhppaaA1
import Derived.Test.YtpdackbcnbhppaaR11
import Derived.Lib.SmallJoins
import Derived.Deep.Slices
import Derived.SizedLaws
namespace Go.Proofs.Ytpdackbcnbhppaa
open Go.Joins Go.ChangeShapes Go.WideShapes Go.RowKit Go.Deep

section
variable {H : Type} {enc : TypeId × Value → H} {P : Program} {w : World} {base : Nat} {spare : Nat → Bool} {held : Bool}
/-- A slice of integers among the fields. -/
theorem open_row {t e : TypeId} {k : IntKind} {fuel : Nat} {v : Value} {x : DataW H × List MemPlace} {b : Nat} (ht : P.underlying t = some (.slice e)) (he : P.underlying e = some (.int k)) (hC : P.cellsOf e = 1) (hb : P.bytesOf e = b)
    (h : DataW.trod enc P w 0 (fun _ => true) held fuel t [v] = some x) (hw : ∀ n ∈ x.1.weights P t, n ≤ reachBytes) :
    ∃ A n c l, v = .slice A n c ∧ n = l.length ∧ RdInts w w.heap.size k A l ∧ n * b ≤ reachBytes ∧ ∀ z ∈ l, (Lit.int k z).wf = true := by
  rcases open_ints ht he hC h with ⟨hcs, _⟩ | ⟨a, l, c, zs, hcs, _, hl, hm, hz, hx, hcell, hwz⟩
  · simp only [List.cons.injEq, and_true] at hcs
    subst hcs
    exact ⟨none, 0, 0, [], rfl, rfl, Reads.none_, by simp, by simp⟩
  · simp only [List.cons.injEq, and_true] at hcs
    subst hcs
    simp only [if_true] at hz
    obtain ⟨l', h1, h2, h3, h4, h5⟩ := rd_of_row (k := k) (w := w) (a := some a) (len := l) (cap := c) (zs := zs) (.inr ⟨a, rfl, hl, hm, hz, hcell, hwz⟩)
    refine ⟨some a, l, c, l', rfl, h1.symm, h4, ?_, h5⟩
    subst hx
    have := hw _ (by simp only [DataW.weights, ht]; exact List.mem_cons_self)
    rw [hb] at this
    refine Nat.le_trans (Nat.mul_le_mul_right b ?_) this
    simp [lits]
    omega
/-- Cells that lie apart from one another by so many are a row of records. -/
theorem rd_of_recs {α : Type} {c : α → List Value} {sz : Nat} (E : Enc c sz) (hs : 0 < sz) {a : Addr} {L : List α} (h : ∀ i x, L[i]? = some x → w.cells? 0 (a.add (i * sz)) sz = some (c x)) : RdR c sz w w.heap.size (some a) L := by
  refine ⟨fm_len E L, fun h0 => ?_⟩
  obtain ⟨b, off, spot⟩ := a
  obtain ⟨y0, hx0⟩ : ∃ y0, L[0]? = some y0 := ⟨_, List.getElem?_eq_getElem h0⟩
  obtain ⟨u, hu⟩ : ∃ u, (c y0)[0]? = some u := ⟨_, List.getElem?_eq_getElem (by rw [E.len]; exact hs)⟩
  have h1 := (World.cells?_some (h 0 _ hx0)).2.2 0 hs
  rw [hu] at h1
  have hspot : spot = none := by simpa [Addr.add] using World.cell?_spot h1
  subst hspot
  have hc : ∀ j u, (L.flatMap c)[j]? = some u → w.cell? ⟨b, off + j, none⟩ = some u := by
    intro j u hu
    have hj : j < L.length * sz := by rw [← fm_len E L]; exact (List.getElem?_eq_some_iff.1 hu).1
    have hi : j / sz < L.length := (Nat.div_lt_iff_lt_mul hs).2 hj
    have hm : j % sz < sz := Nat.mod_lt _ hs
    have hx : L[j / sz]? = some L[j / sz] := List.getElem?_eq_getElem hi
    have hg := fm_get E L (j / sz) (j % sz) _ hx hm
    have e : j / sz * sz + j % sz = j := Nat.div_add_mod' j sz
    rw [e, hu] at hg
    have := (World.cells?_some (h _ _ hx)).2.2 (j % sz) hm
    rw [← hg, Go.WideShapes.add_plain, Go.WideShapes.add_plain, Nat.add_assoc, e] at this
    exact this
  rw [Go.WideShapes.add_plain, Go.WideShapes.add_plain] at h1
  exact ⟨b, off, rfl, World.block_lt_of_cell? _ _ h1, World.block_lt_of_cell? _ _ h1, hc⟩
/-- One field of a struct. -/
theorem trod_fld {fs : Array Field} {n k o : Nat} {t : TypeId} {cs : List Value} {xs : List (DataW H × List MemPlace)} (hg : ∀ (i : Nat) (f : Field), fs[i]? = some f → DataW.trod enc P w base spare held n f.type ((cs.drop f.offset).take (P.cellsOf f.type)) = xs[i]?)
    (i : Nat) {f : Field} (hf : fs[i]? = some f) (ht : f.type = t) (ho : f.offset = o) (hC : P.cellsOf t = k) : DataW.trod enc P w base spare held n t ((cs.drop o).take k) = xs[i]? := by
  subst ht ho hC
  exact hg i f hf
end

set_option maxRecDepth 100000 in
theorem open_chr {H : Type} {enc : TypeId × Value → H} {W : World} {fuel : Nat} {cs : List Value} {x : DataW H × List MemPlace} (h : DataW.trod enc Try.prog W 0 (fun _ => true) true fuel 78 cs = some x) : ∃ c : Chr, cs = chC c := by
  obtain ⟨xs, n, _, hx, hlen, hl, hg⟩ := DataW.trod_struct Try.underlying78 h
  have h7 : cs.length = 7 := hlen.trans (by kernel_rfl)
  match cs, h7, xs, hl with
  | [c0, c1, c2, c3, c4, c5, c6], _, [y0, y1, y2, y3, y4, y5, y6], _ =>
    obtain ⟨z0, e0, _⟩ := DataW.trod_int Try.underlying21 (trod_fld hg 0 rfl rfl rfl (o := 0) (k := 1) (by kernel_rfl))
    obtain ⟨z1, e1, _⟩ := DataW.trod_int Try.underlying28 (trod_fld hg 1 rfl rfl rfl (o := 1) (k := 1) (by kernel_rfl))
    obtain ⟨z2, e2, _⟩ := DataW.trod_int Try.underlying21 (trod_fld hg 2 rfl rfl rfl (o := 2) (k := 1) (by kernel_rfl))
    obtain ⟨z3, e3, _⟩ := DataW.trod_int Try.underlying70 (trod_fld hg 3 rfl rfl rfl (o := 3) (k := 1) (by kernel_rfl))
    obtain ⟨z4, e4, _⟩ := DataW.trod_int Try.underlying21 (trod_fld hg 4 rfl rfl rfl (o := 4) (k := 1) (by kernel_rfl))
    obtain ⟨z5, e5, _⟩ := DataW.trod_int Try.underlying21 (trod_fld hg 5 rfl rfl rfl (o := 5) (k := 1) (by kernel_rfl))
    obtain ⟨z6, e6, _⟩ := DataW.trod_bool Try.underlying4 (trod_fld hg 6 rfl rfl rfl (o := 6) (k := 1) (by kernel_rfl))
    simp only [List.drop_zero, List.drop_succ_cons, List.take_succ_cons, List.take_zero, List.cons.injEq, and_true] at e0 e1 e2 e3 e4 e5 e6
    subst e0 e1 e2 e3 e4 e5 e6
    exact ⟨⟨z0, z1, z2, z3, z4, z5, z6⟩, rfl⟩

/-- The characters of props. -/
theorem open_chars {H : Type} {enc : TypeId × Value → H} {W : World} {fuel : Nat} {v : Value} {x : DataW H × List MemPlace} (h : DataW.trod enc Try.prog W 0 (fun _ => true) true fuel 50 [v] = some x) (hw : ∀ n ∈ x.1.weights Try.prog 50, n ≤ reachBytes) :
    ∃ A n c L, v = .slice A n c ∧ n = L.length ∧ RdR chC 7 W W.heap.size A L ∧ n * 28 ≤ reachBytes := by
  rcases open_slice Try.underlying50 h with ⟨hcs, _⟩ | ⟨a, len, cap, m, n, D, Pl, hcs, _, hl, hm, hmm, hx, hcell⟩
  · simp only [List.cons.injEq, and_true] at hcs
    subst hcs
    exact ⟨none, 0, 0, [], rfl, rfl, Reads.none_, by simp⟩
  · simp only [List.cons.injEq, and_true] at hcs
    subst hcs
    simp only [if_true] at hmm
    subst hmm
    have hC : Try.prog.cellsOf 78 = 7 := by kernel_rfl
    have hch : ∀ i, ∃ c : Chr, i < m → W.cells? 0 (a.add (i * 7)) 7 = some (chC c) := by
      intro i
      by_cases hi : i < m
      · obtain ⟨cs', h1, h2⟩ := hcell i hi
        obtain ⟨c, rfl⟩ := open_chr h2
        rw [hC] at h1
        exact ⟨c, fun _ => h1⟩
      · exact ⟨Chr.zero, fun h => absurd h hi⟩
    obtain ⟨X, hX⟩ := Classical.axiomOfChoice hch
    refine ⟨some a, len, m, (List.range len).map X, rfl, by simp, rd_of_recs encC (by omega) (fun i x hx => ?_), ?_⟩
    · rw [List.getElem?_map] at hx
      obtain ⟨j, hj, rfl⟩ := Option.map_eq_some_iff.1 hx
      obtain ⟨hj1, hj2⟩ := List.getElem?_eq_some_iff.1 hj
      rw [List.getElem_range] at hj2
      subst hj2
      simp only [List.length_range] at hj1
      exact hX i (by omega)
    · subst hx
      have := hw _ (by simp only [DataW.weights, Try.underlying50]; exact List.mem_cons_self)
      rw [show Try.prog.bytesOf 78 = 28 by kernel_rfl] at this
      refine Nat.le_trans (Nat.mul_le_mul_right 28 ?_) this
      simp

/-- The input of the layer's statements: props, runes, first classes, a sequence. -/
structure InL where
  rest : Int
  ch : List Chr
  rs : List Int
  fs : List Int
  s : Sq
/-- .. as it is laid. -/
structure InIs (W : World) (B : Nat) (cs : Array Value) (x : InL) (pv rv fv av bv : Value) : Prop where
  hcs : cs = #[.int .u8 x.rest, pv, rv, fv, av, bv, .int .i8 x.s.lv, .int .u8 x.s.so, .int .u8 x.s.eo]
  p : ∃ A c, pv = .slice A x.ch.length c ∧ RdR chC 7 W B A x.ch
  r : ∃ A c, rv = .slice A x.rs.length c ∧ RdInts W B .i32 A x.rs
  f : ∃ A c, fv = .slice A x.fs.length c ∧ RdInts W B .u8 A x.fs
  a : ∃ A c, av = .slice A x.s.pl.length c ∧ RdInts W B .i64 A x.s.pl
  b : ∃ A c, bv = .slice A x.s.cs.length c ∧ RdInts W B .u8 A x.s.cs
  l1 : x.ch.length * 28 ≤ 140737488351232
  l2 : x.rs.length * 4 ≤ 140737488351232
  l3 : x.fs.length * 1 ≤ 140737488351232
  l4 : x.s.pl.length * 8 ≤ 140737488351232
  l5 : x.s.cs.length * 1 ≤ 140737488351232
  wr : ∀ z ∈ x.rs, (Lit.int .i32 z).wf = true
  wf : ∀ z ∈ x.fs, (Lit.int .u8 z).wf = true
  wa : ∀ z ∈ x.s.pl, (Lit.int .i64 z).wf = true
  wb : ∀ z ∈ x.s.cs, (Lit.int .u8 z).wf = true
  wl : (Lit.int .i8 x.s.lv).wf = true
  ws : (Lit.int .u8 x.s.so).wf = true
  we : (Lit.int .u8 x.s.eo).wf = true

set_option maxRecDepth 100000 in
theorem open_in {H : Type} {enc : TypeId × Value → H} {W : World} {b0 : Nat} {r : Reach} {v : Value} {d : DataW H} {p : List MemPlace} (hv : Value.okWide Try.prog W r b0 55 v) (h : DataW.Trod enc Try.prog W 0 (fun _ => true) true 55 v d p)
    (hw : ∀ n ∈ d.weights Try.prog 55, n ≤ reachBytes) : ∃ cs x pv rv fv av bv, v = .agg cs ∧ InIs W W.heap.size cs x pv rv fv av bv := by
  obtain ⟨cs, rfl, hsz⟩ := okWide_struct Try.underlying55 hv
  have h9 : cs.size = 9 := hsz.trans (by kernel_rfl)
  obtain ⟨l⟩ := cs
  match l, h9 with
  | [c0, c1, c2, c3, c4, c5, c6, c7, c8], _ =>
    obtain ⟨fuel, hf⟩ := h
    obtain ⟨xs, n, _, hx, _, hlen, hg⟩ := DataW.trod_struct Try.underlying55 hf
    match xs, hlen with
    | [y0, y1, y2, y3], _ =>
      have g0 := trod_fld hg 0 rfl rfl rfl (o := 0) (k := 2) (by kernel_rfl)
      have g1 := trod_fld hg 1 rfl rfl rfl (o := 2) (k := 1) (by kernel_rfl)
      have g2 := trod_fld hg 2 rfl rfl rfl (o := 3) (k := 1) (by kernel_rfl)
      have g3 := trod_fld hg 3 rfl rfl rfl (o := 4) (k := 5) (by kernel_rfl)
      simp only [Prod.mk.injEq] at hx
      obtain ⟨rfl, hx2⟩ := hx
      obtain ⟨ps, n0, _, hp, _, hpl, hpg⟩ := DataW.trod_struct Try.underlying52 g0
      obtain ⟨ss, n3, _, hs, _, hsl, hsg⟩ := DataW.trod_struct Try.underlying35 g3
      match ps, hpl with
      | [z0, z1], _ =>
        match ss, hsl with
        | [s0, s1, s2, s3, s4], _ =>
          subst hp hs
          obtain ⟨rest, e0, _⟩ := DataW.trod_int Try.underlying28 (trod_fld hpg 0 rfl rfl rfl (o := 0) (k := 1) (by kernel_rfl))
          have q1 := trod_fld hpg 1 rfl rfl rfl (o := 1) (k := 1) (by kernel_rfl)
          have r0 := trod_fld hsg 0 rfl rfl rfl (o := 0) (k := 1) (by kernel_rfl)
          have r1 := trod_fld hsg 1 rfl rfl rfl (o := 1) (k := 1) (by kernel_rfl)
          obtain ⟨lv, e6, wl⟩ := DataW.trod_int Try.underlying23 (trod_fld hsg 2 rfl rfl rfl (o := 2) (k := 1) (by kernel_rfl))
          obtain ⟨so, e7, ws⟩ := DataW.trod_int Try.underlying28 (trod_fld hsg 3 rfl rfl rfl (o := 3) (k := 1) (by kernel_rfl))
          obtain ⟨eo, e8, we⟩ := DataW.trod_int Try.underlying28 (trod_fld hsg 4 rfl rfl rfl (o := 4) (k := 1) (by kernel_rfl))
          simp only [Value.cells, List.drop_zero, List.drop_succ_cons, List.take_succ_cons, List.take_zero, List.cons.injEq, and_true] at e0 e6 e7 e8
          subst e0 e6 e7 e8
          have hw' : ∀ z, (z ∈ z1.1.weights Try.prog 50 ∨ z ∈ y1.1.weights Try.prog 53 ∨ z ∈ y2.1.weights Try.prog 24 ∨ z ∈ s0.1.weights Try.prog 27 ∨ z ∈ s1.1.weights Try.prog 24) → z ≤ reachBytes := by
            intro z hz
            refine hw z ?_
            simp only [DataW.weights, Try.underlying55, List.map_cons, List.map_nil, DataW.weightsEach, Try.underlying52, Try.underlying35, List.mem_append]
            rcases hz with hz | hz | hz | hz | hz <;> simp [hz]
          obtain ⟨pA, pn, pc, ch, rfl, hn1, R1, L1⟩ := open_chars q1 (fun z hz => hw' z (.inl hz))
          obtain ⟨rA, rn, rc, rs, rfl, hn2, R2, L2, wr⟩ := open_row Try.underlying53 Try.underlying21 (by kernel_rfl) (b := 4) (by kernel_rfl) g1 (fun z hz => hw' z (.inr (.inl hz)))
          obtain ⟨fA, fn, fc, fs, rfl, hn3, R3, L3, wf⟩ := open_row Try.underlying24 Try.underlying28 (by kernel_rfl) (b := 1) (by kernel_rfl) g2 (fun z hz => hw' z (.inr (.inr (.inl hz))))
          obtain ⟨aA, an, ac, pl, rfl, hn4, R4, L4, wa⟩ := open_row Try.underlying27 Try.underlying3 (by kernel_rfl) (b := 8) (by kernel_rfl) r0 (fun z hz => hw' z (.inr (.inr (.inr (.inl hz)))))
          obtain ⟨bA, bn, bc, cl, rfl, hn5, R5, L5, wb⟩ := open_row Try.underlying24 Try.underlying28 (by kernel_rfl) (b := 1) (by kernel_rfl) r1 (fun z hz => hw' z (.inr (.inr (.inr (.inr hz)))))
          subst hn1 hn2 hn3 hn4 hn5
          exact ⟨_, ⟨rest, ch, rs, fs, ⟨pl, cl, lv, so, eo⟩⟩, _, _, _, _, _, rfl, ⟨rfl, ⟨_, _, rfl, R1⟩, ⟨_, _, rfl, R2⟩, ⟨_, _, rfl, R3⟩, ⟨_, _, rfl, R4⟩, ⟨_, _, rfl, R5⟩, L1, L2, L3, L4, L5, wr, wf, wa, wb, wl.2, ws.2, we.2⟩⟩
end Go.Proofs.Ytpdackbcnbhppaa
