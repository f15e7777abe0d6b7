/- SpansRuns: the count of runs, round by round. -/
import Derived.Test.YthifeccmbojcdaaG6
namespace Go.Proofs.Ythifeccmbojcdaa
open Go.RowKit Go.Shelf

theorem tell_len (cl lv : List Int) : (tellL cl lv).length ≤ cl.length := by
  unfold tellL
  split
  · exact (runs_good lv cl).len
  · simp
theorem gr_cells : ∀ (L : List Gr) (i j : Nat) (e : Gr), L[i]? = some e → j < 2 → (L.flatMap grCells)[i * 2 + j]? = (grCells e)[j]?
  | [], i, j, e, h, _ => by simp at h
  | a :: L, 0, j, e, h, hj => by
    have h : a = e := by simpa using h
    subst h
    rw [List.flatMap_cons, List.getElem?_append_left (by simp [grCells]; omega)]
    simp
  | a :: L, i + 1, j, e, h, hj => by
    rw [List.flatMap_cons, List.getElem?_append_right (by simp [grCells]; omega)]
    have := gr_cells L i j e (by simpa using h) hj
    rw [← this]
    congr 1
    simp [grCells]
    omega
theorem GrpAt.get {W : World} {B n cap : Nat} {vA : Option Addr} {L : List Gr} (h : GrpAt W B (.slice vA n cap) L) {i : Nat} {e : Gr} (he : L[i]? = some e) :
    ∃ og A c, vA = some ⟨og, 0, none⟩ ∧ og < W.heap.size ∧ W.cell? ⟨og, i * 2, none⟩ = some (.slice A e.1.length c) ∧ W.cell? ⟨og, i * 2 + 1, none⟩ = some (.int .i8 e.2.1) ∧ RdInts W W.heap.size .i64 A e.1 := by
  have hl := (List.getElem?_eq_some_iff.1 he).1
  obtain ⟨og, cap', hv, _, hg⟩ := World.ownsRow.form h.row (by omega)
  injection hv with h1 h2 h3
  subst h1 h2 h3
  obtain ⟨A, c, e1, _, _, r1⟩ := (h.each e (List.mem_of_getElem? he)).val
  have key : ∀ j u, j < 2 → (grCells e)[j]? = some u → W.cell? ⟨og, i * 2 + j, none⟩ = some u := fun j u hj hu => by
    have := World.ownsRow.cells h.row (g := og) rfl (i * 2 + j) u (by rw [gr_cells L i j e he hj]; exact hu)
    rwa [add_lit, Nat.zero_add] at this
  exact ⟨og, A, c, rfl, hg, key 0 _ (by omega) (by rw [← e1]; rfl), key 1 _ (by omega) rfl, r1⟩

/-- The marks that ranges over functions leave with a call, one each. -/
def marksOf (qs : List Nat) : List Deferred := qs.map (fun q => { target := .collected q, args := #[] })
structure Marks (D : Nat) (qs : List Nat) (W : World) : Prop where
  nodup : qs.Nodup
  each : ∀ q ∈ qs, D ≤ q ∧ W.heap[q]? = some (.deferred (some []))
theorem leaves_marks {F : Fence} {n D : Nat} {P : Program} {fn : Func} {tmps : Array Value} {R : Ending → World → Prop} : ∀ (qs : List Nat) (W : World), Marks D qs W →
    (∀ W', Frm (fun k => k ∈ qs) W W' → ∃ v, (results fn tmps).run P W' = .ok v W' ∧ R (.returned v) W') → LeavesInM F n P fn tmps R (marksOf qs) .returning W
  | [], W, _, h => h W (Frm.refl _ _)
  | q :: qs, W, hm, h => by
    have hK := (hm.each q (by simp)).2
    obtain ⟨hq, hnd⟩ := List.nodup_cons.1 hm.nodup
    refine ⟨by simp, .inl ⟨q, _, rfl, run_takeDeferred hK, leaves_marks qs _ ⟨hnd, fun q' hq' => ⟨(hm.each q' (by simp [hq'])).1, (World.putObj_heap_other (fun e => hq (by rw [← e]; exact hq'))).trans (hm.each q' (by simp [hq'])).2⟩⟩ fun W' hF => ?_⟩⟩
    exact h W' (((Frm.refl (fun k => k ∈ q :: qs) W).put (k := q) (by simp) (.deferred none)).trans hF (fun k _ hk => List.mem_cons_of_mem _ hk))
theorem Marks.keep {D : Nat} {qs : List Nat} {W W' : World} {F : Nat → Prop} (h : Marks D qs W) (hF : Frm F W W') (hn : ∀ q ∈ qs, ¬ F q) : Marks D qs W' :=
  ⟨h.nodup, fun q hq => ⟨(h.each q hq).1, (hF.block q (Array.getElem?_eq_some_iff.1 (h.each q hq).2).1 (hn q hq)).trans (h.each q hq).2⟩⟩
theorem Marks.step {D nb : Nat} {qs : List Nat} {Y W : World} {t : TypeId} {cs : Array Value} (h : Marks D qs Y) (BN : Blk Y nb t cs) (hF : Frm (fun k => k = nb) Y W) (hD : D ≤ Y.heap.size) (hK : W.heap[Y.heap.size]? = some (.deferred (some []))) (o : Obj) :
    Marks D (Y.heap.size :: qs) (W.alloc o) := by
  have hlt : ∀ q ∈ qs, q < Y.heap.size := fun q hq => (Array.getElem?_eq_some_iff.1 (h.each q hq).2).1
  have hne : ∀ q ∈ qs, ¬ q = nb := fun q hq e => by
    have h1 := (h.each q hq).2
    have h2 : Y.heap[nb]? = some (.cells cs t (0, 0)) := BN
    rw [e, h2] at h1
    cases h1
  have hm : Marks D (Y.heap.size :: qs) W := ⟨List.nodup_cons.2 ⟨fun hq => by have := hlt _ hq; omega, h.nodup⟩, fun q hq => by
    rcases List.mem_cons.1 hq with rfl | hq
    · exact ⟨hD, hK⟩
    · exact ((h.keep hF hne).each q hq)⟩
  exact hm.keep ((Frm.refl (fun _ => False) W).alloc o) (fun _ _ => id)
theorem results_cellb {fn : Func} {p : Tmp} (h : fn.results = #[.cell p 4]) (tmps : Array Value) (w : World) (b : Nat) (v : Value) (hp : tmps.getD p undef = .pointer (some ⟨b, 0, none⟩)) (hc : w.cell? ⟨b, 0, none⟩ = some v) : (results fn tmps).run Try.prog w = .ok v w := by
  have hp' : tmps[p]?.getD undef = .pointer (some ⟨b, 0, none⟩) := by simpa using hp
  have hu := run_underlying (P := Try.prog) Try.underlying4 (w := w)
  simp [results, h, hp', asAddr, loadVar, isAgg, hu, hc, go_sem]

/-- The count stands in its block; nothing else has turned. -/
def NAt (W0 : World) (nb k : Nat) (S : Nat → Prop) (W : World) : Prop :=
  (∀ j, S j ↔ (j = nb ∨ j = W0.heap.size + 1)) ∧ Blk W nb 3 #[.int .i64 (k : Int)] ∧ Frm (fun j => j = nb) W0 W ∧ W0.heap.size + 1 < W.heap.size
theorem NAt.frm {W0 W W' : World} {nb k : Nat} {S : Nat → Prop} (h : NAt W0 nb k S W) (hb : nb < W0.heap.size) (hF : Frm (fun j => j = W0.heap.size + 1) W W') : NAt W0 nb k S W' := by
  obtain ⟨h1, h2, h3, h4⟩ := h
  exact ⟨h1, h2.frm hF (by omega), h3.trans hF (fun j hj e => by omega), Nat.lt_of_lt_of_le h4 hF.size⟩
def NStep (W0 : World) (nb : Nat) (x : Nat × (Nat → Prop)) (W W' : World) : Prop := x.2 (W0.heap.size + 1) ∧ ∃ S', NAt W0 nb (x.1 + 1) S' W' ∧ Frm x.2 W W' ∧ ∀ j, S' j → x.2 j ∨ W.heap.size ≤ j

theorem runs_call {W0 W1 : World} {n n2 c c2 b1 b2 nb B B2 : Nat} {A A2 : Option Addr} {cl lv : List Int} (hn : n = cl.length) (hn2 : n2 = lv.length) (R1 : Blk W0 b1 22 #[.slice A n c]) (R2 : Blk W0 b2 35 #[.slice A2 n2 c2]) (h0 : RdInts W0 B .u8 A cl) (h2 : RdInts W0 B2 .i8 A2 lv) (hl : n ≤ 8388608)
    (hb : nb < W0.heap.size) (BN : Blk W0 nb 3 #[.int .i64 0]) (hF1 : Frm (fun _ => False) W0 W1) (hW1 : W0.heap.size + 1 < W1.heap.size) {Rdy Dn : World → Prop} (hst : ∀ A B, Rdy A → Two W0.heap.size A B → Rdy B) (hR1 : Rdy W1)
    {Rb : Nat × (Nat → Prop) → World → World → Prop} {Finb : World → Prop} (hRb : ∀ x W W', Rb x W W' → Finb W')
    (hY : ∀ (x : Nat × (Nat → Prop)) (W : World), (NAt W0 nb x.1 x.2 W ∧ x.1 < (tellL cl lv).length) → Rdy W → YieldAt Fence.wide (5 - 1 - 1) Try.prog (W0.heap.size + 1) ((tellL cl lv).getD x.1 default).encs W fun e W' =>
      (e = .returned (.bool true) ∧ NStep W0 nb x W W' ∧ Rdy W') ∨ (e = .returned (.bool false) ∧ Rb x W W' ∧ Dn W')) :
    CallsIn Fence.wide (5 - 1) Try.prog 63 (#[.func (.yield (W0.heap.size + 1)) #[] #[]] ++ #[.pointer (some ⟨b1, 0, none⟩), .pointer (some ⟨b2, 0, none⟩)]) W1 fun e W' => (∃ v, e = .returned v) ∧ (((∃ S, NAt W0 nb (tellL cl lv).length S W') ∧ Rdy W') ∨ (Finb W' ∧ Dn W')) := by
  have T : Tells (fun k S W => NAt W0 nb k S W ∧ Rdy W) := by
    refine ⟨?_, ?_⟩
    · rintro k S W ⟨⟨h1, h2, h3, h4⟩, _⟩ j hj
      rcases (h1 j).1 hj with e | e
      · rw [e]; exact h2.lt
      · omega
    · rintro k S W W' ⟨h, h2⟩ hF
      have h5 := h.2.2.2
      exact ⟨h.frm hb (hF.mono (fun _ _ e => e.elim)), hst _ _ h2 (Two.of_frm hF h5 id id)⟩
  have I0 : NAt W0 nb 0 (fun j => j = nb ∨ j = W0.heap.size + 1) W1 := ⟨fun _ => Iff.rfl, BN.frm hF1 id, hF1.mono (fun _ _ e => e.elim), hW1⟩
  refine (iter_any hn hn2 (R1.frm hF1 id) (R2.frm hF1 id) (h0.frmA hF1 (fun _ _ _ => id)) (h2.frmA hF1 (fun _ _ _ => id)) hl T (Jx := fun W => Finb W ∧ Dn W) ⟨I0, hR1⟩ (d := 5 - 1) (by omega) ?_).mono ?_
  · intro k S W hk h
    have e : ((tellL cl lv)[k]).encs = ((tellL cl lv).getD k default).encs := by rw [List.getD_eq_getElem?_getD, List.getElem?_eq_getElem hk]; rfl
    rw [e]
    obtain ⟨fn, tmps, asg, bd, hy, hRo⟩ := hY (k, S) W ⟨h.1, hk⟩ h.2
    refine ⟨fn, tmps, asg, bd, hy, hRo.mono fun e w' h => ?_⟩
    rcases h with ⟨h1, ⟨_, S', h2, h3, h4⟩, h5⟩ | ⟨h1, h2, h3⟩
    · exact .inl ⟨h1, S', ⟨h2, h5⟩, h3, h4⟩
    · exact .inr ⟨h1, hRb _ _ _ h2, h3⟩
  · rintro e W2 ⟨hv, (⟨S, h1, h2⟩ | h)⟩
    · exact ⟨hv, .inl ⟨⟨S, h1⟩, h2⟩⟩
    · exact ⟨hv, .inr h⟩
end Go.Proofs.Ythifeccmbojcdaa
