/- Slices of integers: that the call owns, that are read. -/
import Derived.Test.YtaekdnfpgkfjkaaDoorKit
namespace Go.Proofs.YtaekdnfpgkfjkaaDoor
open Go.RowKit

theorem Blk.at_ {w : World} {t : TypeId} {cs : Array Value} {g : Nat} (hg : g = w.heap.size) : Blk (w.alloc (.cells cs t)) g t cs := by subst hg; exact Blk.new _ _ _

structure ElemI (P : Program) (t e : TypeId) (k : IntKind) (bytes : Nat) : Prop where
  parts : ∃ i, P.underlying t = some (.slice e) ∧ P.info? e = some i ∧ i.zero = some (.int k 0) ∧ i.size = 1 ∧ i.bytes = bytes
theorem ElemI.mk' {P : Program} {t e : TypeId} {k : IntKind} {bytes : Nat} (ht : P.underlying t = some (.slice e)) (hi : (P.info? e).map (fun i => (i.zero, i.size, i.bytes)) = some (some (.int k 0), 1, bytes)) : ElemI P t e k bytes := by
  obtain ⟨i, hi, h1, h2, h3⟩ := info_parts hi
  exact ⟨i, ht, hi, h1, h2, h3⟩
theorem ElemI.t {P : Program} {t e : TypeId} {k : IntKind} {bytes : Nat} (h : ElemI P t e k bytes) : ElemT P t e 1 bytes := by
  obtain ⟨i, h1, h2, h3, h4, h5⟩ := h.parts
  exact ⟨i, .int k 0, h1, h2, h3, h4, h5, rfl, by omega⟩

def Ints (w : World) (B : Nat) (e : TypeId) (k : IntKind) (v : Value) (l : List Int) : Prop := w.ownsRow B e 1 v l.length (l.map (.int k))
def RdInts (w : World) (B : Nat) (k : IntKind) (A : Option Addr) (l : List Int) : Prop := Reads w B 1 A l.length (l.map (.int k))

theorem ints_one (k : IntKind) (l : List Int) : ∀ u ∈ l.map (Value.int k), u.oneCell' = true := by
  intro u hu
  obtain ⟨x, _, rfl⟩ := List.mem_map.1 hu
  rfl

section
variable {w w' : World} {B g n cap : Nat} {e : TypeId} {k : IntKind} {v : Value} {l : List Int} {A : Option Addr}
theorem Ints.nil (w : World) (B : Nat) (e : TypeId) (k : IntKind) : Ints w B e k (.slice none 0 0) [] := World.ownsRow_nil _ _ _ _
theorem Ints.frm {F : Nat → Prop} (h : Ints w B e k v l) (hf : Frm F w w') (hg : ∀ j, v.ownBlock = some j → ¬ F j) : Ints w' B e k v l := own_frm h hf hg
theorem Ints.alloc (h : Ints w B e k v l) (o : Obj) : Ints (w.alloc o) B e k v l := World.ownsRow.alloc h o
theorem Ints.drew (h : Ints w B e k v l) : Ints w.drew B e k v l := h
theorem Ints.drewN (h : Ints w B e k v l) (j : Nat) : Ints (w.drewN j) B e k v l := h
theorem Ints.kept {row : Option Nat} (h : Ints w B e k v l) (hg : w.grownBy w' row) (hne : v.ownBlock = none ∨ v.ownBlock ≠ row) : Ints w' B e k v l := World.ownsRow.kept h hg hne
theorem Ints.lt (h : Ints w B e k v l) : ∀ j, v.ownBlock = some j → B ≤ j ∧ j < w.heap.size := World.ownsRow.lt h
theorem Ints.below {C : Nat} (h : Ints w B e k v l) (hb : Below C w w') (hC : w.heap.size ≤ C) : Ints w' B e k v l :=
  own_frm h (Frm.of_below (F := fun _ => False) (hb.mono hC)) (fun _ _ h => h)
theorem Ints.base {B' : Nat} (h : Ints w B e k v l) (hb : ∀ j, v.ownBlock = some j → B' ≤ j) : Ints w B' e k v l := own_base h hb
theorem Ints.form (h : Ints w B e k v l) (hl : 0 < l.length) : ∃ g cap, v = .slice (some ⟨g, 0, none⟩) l.length cap := by
  obtain ⟨g, cap, hv, _, _⟩ := World.ownsRow.form h hl
  exact ⟨g, cap, hv⟩
theorem Ints.cases' (h : Ints w B e k v l) : (v = .slice none 0 0 ∧ l = []) ∨ ∃ g cap, v = .slice (some ⟨g, 0, none⟩) l.length cap := by
  rcases h.2 with ⟨rfl, h0⟩ | ⟨g, cap, cur, rfl, _⟩
  · exact .inl ⟨rfl, List.eq_nil_of_length_eq_zero h0⟩
  · exact .inr ⟨g, cap, rfl⟩
/-- The value, nil or not. -/
theorem Ints.val (h : Ints w B e k v l) : ∃ A cap, v = .slice A l.length cap ∧ l.length ≤ cap ∧ cap ≤ maxLen ∧ RdInts w w.heap.size k A l := by
  have h1 := h
  rcases h.2 with ⟨rfl, h0⟩ | ⟨g, cap, cur, rfl, _, _, h3, h4, _⟩
  · have : l = [] := List.eq_nil_of_length_eq_zero h0
    subst this
    exact ⟨none, 0, rfl, by simp, by simp, Reads.none_⟩
  · exact ⟨_, cap, rfl, h3, h4, Reads.of_own h1⟩
theorem Ints.at_ (h : Ints w B e k (.slice (some ⟨g, 0, none⟩) n cap) l) : n = l.length ∧ l.length ≤ cap ∧ cap ≤ maxLen ∧ B ≤ g ∧ g < w.heap.size ∧ (∀ j, w.frozen? ⟨g, j, none⟩ = false) ∧ ∀ i, i < l.length → w.cell? ⟨g, i, none⟩ = some (.int k (l.getD i 0)) := by
  have hn : n = l.length := by
    rcases h.2 with ⟨h0, _⟩ | ⟨g', cap', cur, hv, _⟩
    · cases h0
    · injection hv
  subst hn
  obtain ⟨cur, h1, h2, h3, h4, h5, h6⟩ := own_blk h
  refine ⟨rfl, h3, h4, h1, h2.lt, h2.frozen, fun i hi => ?_⟩
  have := World.ownsRow.cells h (g := g) rfl i (.int k (l.getD i 0)) (by simp [hi])
  rwa [add_lit, Nat.zero_add] at this
theorem Ints.set (h : Ints w B e k (.slice (some ⟨g, 0, none⟩) n cap) l) (i : Nat) (x : Int) : Ints (w.setCell ⟨g, i, none⟩ (.int k x)) B e k (.slice (some ⟨g, 0, none⟩) n cap) (l.set i x) := by
  obtain ⟨rfl, _⟩ := h.at_
  have := (World.ownsRow.stored h i (.int k x)).1
  unfold Ints
  rw [List.map_set, List.length_set]
  exact this
theorem Ints.cut (h : Ints w B e k (.slice (some ⟨g, 0, none⟩) n cap) l) (j : Nat) (hj : j ≤ l.length) : Ints w B e k (.slice (some ⟨g, 0, none⟩) j cap) (l.take j) := by
  obtain ⟨rfl, h1, h2, _⟩ := h.at_
  obtain ⟨cur, k1, k2, k3, k4, k5, k6⟩ := own_blk h
  unfold Ints
  have hl : (l.take j).length = j := by simp; omega
  rw [hl]
  refine ⟨by simp; omega, .inr ⟨g, cap, cur, rfl, k1, k2, by omega, k4, k5, ?_⟩⟩
  rw [List.map_take, ← k6, List.take_take]
  congr 1; omega
theorem Ints.rd (h : Ints w B e k (.slice A n cap) l) : RdInts w w.heap.size k A l := by
  have hn : n = l.length := by
    rcases h.2 with ⟨h0, h1⟩ | ⟨g', cap', cur, hv, _⟩
    · injection h0 with _ h2 _; omega
    · injection hv
  subst hn
  exact Reads.of_own h

theorem RdInts.at_ (h : RdInts w B k A l) {i : Nat} (hi : i < l.length) : ∃ b off, A = some ⟨b, off, none⟩ ∧ b < B ∧ b < w.heap.size ∧ w.cell? ⟨b, off + i, none⟩ = some (.int k (l.getD i 0)) := by
  obtain ⟨b, off, hA, hb, hs, hc⟩ := h.2 (by omega)
  exact ⟨b, off, hA, hb, hs, hc i _ (by simp [hi])⟩
theorem RdInts.cells (h : RdInts w B k A l) (hl : 0 < l.length) : ∃ b off, A = some ⟨b, off, none⟩ ∧ b < B ∧ b < w.heap.size ∧ ∀ i, i < l.length → w.cell? ⟨b, off + i, none⟩ = some (.int k (l.getD i 0)) := by
  obtain ⟨b, off, hA, hb, hs, hc⟩ := h.2 hl
  exact ⟨b, off, hA, hb, hs, fun i hi => hc i _ (by simp [hi])⟩
theorem RdInts.below {C : Nat} (h : RdInts w B k A l) (hb : Below C w w') (hC : B ≤ C ∨ w.heap.size ≤ C) : RdInts w' B k A l := Reads.below h hb hC
theorem RdInts.frmA {F : Nat → Prop} (h : RdInts w B k A l) (hf : Frm F w w') (hF : ∀ b off, A = some ⟨b, off, none⟩ → ¬ F b) : RdInts w' B k A l := Reads.frmA h hf hF
theorem RdInts.alloc (h : RdInts w B k A l) (o : Obj) : RdInts (w.alloc o) B k A l := Reads.alloc h o
theorem RdInts.drew (h : RdInts w B k A l) : RdInts w.drew B k A l := h
theorem RdInts.more {B' : Nat} (h : RdInts w B k A l) (hB : B ≤ B') : RdInts w B' k A l := Reads.more h hB
end

section
variable {P : Program} {t e : TypeId} {k : IntKind} {bytes : Nat} {w : World} {ops : Array Oper} {rest : List Oper} {o : Oper} {a : Act} {Q : Exit → Act → World → Prop}
/-- append of one number. -/
theorem wpList_appI (T : ElemI P t e k bytes) {s x : Operand} (hgd : o.guard = none)
    (ho : o.op = .call { callee := .builtin .append, args := #[s, x], argTypes := #[t, t] }) {base : Nat} {v : Value} {l : List Int} (hs : a.eval s = v) (hown : Ints w base e k v l)
    {q : Nat} {y : Int} (hx : a.eval x = .slice (some ⟨q, 0, none⟩) 1 1) (hk : Blk w q e #[.int k y])
    (h63 : l.length + 1 ≤ maxLen) (hbytes : (l.length + 1) * bytes ≤ 140737488355328) (hbase : base ≤ w.heap.size)
    (h : ∀ g cap w', Ints w' base e k (.slice (some ⟨g, 0, none⟩) (l.length + 1) cap) (l ++ [y]) → w.grownBy w' v.ownBlock → (v.ownBlock = some g ∨ g = w.heap.size) →
      wpList P ops Q rest (a.put o.dst (.slice (some ⟨g, 0, none⟩) (l.length + 1) cap)) w') : wpList P ops Q (o :: rest) a w := by
  refine wpList_app1 T.t hgd ho hs hown hx hk rfl (by simp [Value.oneCell']) h63 hbytes hbase fun g cap w' h1 h2 h3 => h g cap w' ?_ h2 h3
  unfold Ints
  simpa using h1
/-- append of a slice of numbers. -/
theorem wpList_appIs (T : ElemI P t e k bytes) {s x : Operand} (hgd : o.guard = none)
    (ho : o.op = .call { callee := .builtin .append, args := #[s, x], argTypes := #[t, t] }) {base : Nat} {v : Value} {l : List Int} (hs : a.eval s = v) (hown : Ints w base e k v l)
    {B : Nat} {A : Option Addr} {m c : Nat} {l' : List Int} (hm : m = l'.length) (hx : a.eval x = .slice A m c) (hr : RdInts w B k A l')
    (h63 : l.length + l'.length ≤ maxLen) (hbytes : (l.length + l'.length) * bytes ≤ 140737488355328) (hbase : base ≤ w.heap.size)
    (h : ∀ v' w', Ints w' base e k v' (l ++ l') → w.grownBy w' v.ownBlock → (v'.ownBlock = v.ownBlock ∨ v'.ownBlock = some w.heap.size) →
      wpList P ops Q rest (a.put o.dst v') w') : wpList P ops Q (o :: rest) a w := by
  subst hm
  refine wpList_app T.t hgd ho hs hown hx hr (ints_one _ _) h63 hbytes hbase fun v' w' h1 h2 h3 => h v' w' ?_ h2 h3
  unfold Ints
  simpa using h1
/-- make of so many numbers. -/
theorem wpList_mkI (T : ElemI P t e k bytes) (B : Nat) (hg : o.guard = none) {lo co : Operand} (hop : o.op = Op.makeSlice t lo co) {kl kc : IntKind} {L C : Int} (n : Nat) (hl : a.eval lo = .int kl L) (hc : a.eval co = .int kc C) (hL : L = (n : Int)) (hC : C = (n : Int))
    (b2 : bytes * n ≤ 281474976710656) (b3 : n ≤ maxLen) (b4 : B ≤ w.heap.size)
    (hK : ∀ w', Ints w' B e k (.slice (some ⟨w.heap.size, 0, none⟩) n n) (List.replicate n 0) → w.grownBy w' none → wpList P ops Q rest (a.put o.dst (.slice (some ⟨w.heap.size, 0, none⟩) n n)) w') : wpList P ops Q (o :: rest) a w := by
  obtain ⟨i, h1, h2, h3, h4, h5⟩ := T.parts
  subst h5
  refine wpList_make_full w hg lo co t hop B e i (.int k 0) 1 h1 h2 h3 h4 kl kc L C n hl hc hL hC b2 b3 b4 fun w' r1 r2 => hK w' ?_ r2
  unfold Ints
  have hz : (madeCells (Value.int k 0).cells (n * 1)).toList = (List.replicate n (0 : Int)).map (.int k) := by
    rw [Nat.mul_one]
    exact (toList_madeCells_one (.int k 0) n).trans (by simp)
  rw [hz] at r1
  simpa using r1
end
end Go.Proofs.YtaekdnfpgkfjkaaDoor
