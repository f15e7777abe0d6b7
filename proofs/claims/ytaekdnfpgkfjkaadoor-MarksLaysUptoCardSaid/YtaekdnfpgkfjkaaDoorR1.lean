/- A row of records: cells, a part of it, append, a store. -/
import Derived.Test.YtaekdnfpgkfjkaaDoorKit2
import Derived.Test.YtaekdnfpgkfjkaaDoorH6
namespace Go.Proofs.YtaekdnfpgkfjkaaDoor
open Go.RowKit

/-- How a record is laid: so many cells. -/
structure Enc {α : Type} (c : α → List Value) (sz : Nat) : Prop where
  len : ∀ x, (c x).length = sz
  one : ∀ x, ∀ u ∈ c x, u.oneCell' = true
theorem fm_len {α : Type} {c : α → List Value} {sz : Nat} (E : Enc c sz) : ∀ l : List α, (l.flatMap c).length = l.length * sz
  | [] => by simp
  | a :: l => by rw [List.flatMap_cons, List.length_append, fm_len E l, E.len, List.length_cons, Nat.succ_mul]; omega
theorem fm_one {α : Type} {c : α → List Value} {sz : Nat} (E : Enc c sz) (l : List α) : ∀ u ∈ l.flatMap c, u.oneCell' = true := by
  intro u hu
  obtain ⟨x, _, h⟩ := List.mem_flatMap.1 hu
  exact E.one x u h
theorem fm_get {α : Type} {c : α → List Value} {sz : Nat} (E : Enc c sz) : ∀ (l : List α) (i j : Nat) (x : α), l[i]? = some x → j < sz → (l.flatMap c)[i * sz + j]? = (c x)[j]?
  | [], i, j, x, h, _ => by simp at h
  | a :: l, 0, j, x, h, hj => by
    have : a = x := by simpa using h
    subst this
    rw [List.flatMap_cons, Nat.zero_mul, Nat.zero_add, List.getElem?_append_left (by rw [E.len]; exact hj)]
  | a :: l, i + 1, j, x, h, hj => by
    rw [List.flatMap_cons, List.getElem?_append_right (by rw [E.len, Nat.succ_mul]; omega), E.len, ← fm_get E l i j x (by simpa using h) hj]
    congr 1
    rw [Nat.succ_mul]; omega
theorem fm_take {α : Type} {c : α → List Value} {sz : Nat} (E : Enc c sz) : ∀ (l : List α) (i : Nat), (l.take i).flatMap c = (l.flatMap c).take (i * sz)
  | [], i => by simp
  | a :: l, 0 => by simp
  | a :: l, i + 1 => by
    rw [List.take_succ_cons, List.flatMap_cons, List.flatMap_cons, fm_take E l i, Nat.succ_mul, Nat.add_comm, ← E.len a, List.take_length_add_append]

/-- A row of the call's own. -/
def Rw {α : Type} (c : α → List Value) (sz : Nat) (w : World) (B : Nat) (e : TypeId) (v : Value) (l : List α) : Prop := w.ownsRow B e sz v l.length (l.flatMap c)
/-- What is read. -/
def RdR {α : Type} (c : α → List Value) (sz : Nat) (w : World) (B : Nat) (A : Option Addr) (l : List α) : Prop := Reads w B sz A l.length (l.flatMap c)

section
variable {α : Type} {c : α → List Value} {sz : Nat} {w w' : World} {B g n cap : Nat} {e : TypeId} {v : Value} {l : List α} {A : Option Addr}
theorem Rw.nil (w : World) (B : Nat) (e : TypeId) : Rw c sz w B e (.slice none 0 0) [] := World.ownsRow_nil _ _ _ _
theorem Rw.frm {F : Nat → Prop} (h : Rw c sz w B e v l) (hf : Frm F w w') (hg : ∀ j, v.ownBlock = some j → ¬ F j) : Rw c sz w' B e v l := own_frm h hf hg
theorem Rw.alloc (h : Rw c sz w B e v l) (o : Obj) : Rw c sz (w.alloc o) B e v l := World.ownsRow.alloc h o
theorem Rw.drew (h : Rw c sz w B e v l) : Rw c sz w.drew B e v l := h
theorem Rw.drewN (h : Rw c sz w B e v l) (j : Nat) : Rw c sz (w.drewN j) B e v l := h
theorem Rw.kept {row : Option Nat} (h : Rw c sz w B e v l) (hg : w.grownBy w' row) (hne : v.ownBlock = none ∨ v.ownBlock ≠ row) : Rw c sz w' B e v l := World.ownsRow.kept h hg hne
theorem Rw.lt (h : Rw c sz w B e v l) : ∀ j, v.ownBlock = some j → B ≤ j ∧ j < w.heap.size := World.ownsRow.lt h
theorem Rw.below {C : Nat} (h : Rw c sz w B e v l) (hb : Below C w w') (hC : w.heap.size ≤ C) : Rw c sz w' B e v l :=
  own_frm h (Frm.of_below (F := fun _ => False) (hb.mono hC)) (fun _ _ h => h)
theorem Rw.base {B' : Nat} (h : Rw c sz w B e v l) (hb : ∀ j, v.ownBlock = some j → B' ≤ j) : Rw c sz w B' e v l := own_base h hb
theorem Rw.cases' (h : Rw c sz w B e v l) : (v = .slice none 0 0 ∧ l = []) ∨ ∃ g cap, v = .slice (some ⟨g, 0, none⟩) l.length cap ∧ Rw c sz w B e (.slice (some ⟨g, 0, none⟩) l.length cap) l := by
  have h1 := h
  rcases h.2 with ⟨rfl, h0⟩ | ⟨g, cap, cur, rfl, _⟩
  · exact .inl ⟨rfl, List.eq_nil_of_length_eq_zero h0⟩
  · exact .inr ⟨g, cap, rfl, h1⟩
theorem Rw.val (h : Rw c sz w B e v l) : ∃ A cap, v = .slice A l.length cap ∧ l.length ≤ cap ∧ cap ≤ maxLen ∧ RdR c sz w w.heap.size A l := by
  have h1 := h
  rcases h.2 with ⟨rfl, h0⟩ | ⟨g, cap, cur, rfl, _, _, h3, h4, _⟩
  · have : l = [] := List.eq_nil_of_length_eq_zero h0
    subst this
    exact ⟨none, 0, rfl, by simp, by simp, Reads.none_⟩
  · exact ⟨_, cap, rfl, h3, h4, Reads.of_own h1⟩
theorem Rw.at_ (E : Enc c sz) (h : Rw c sz w B e (.slice (some ⟨g, 0, none⟩) n cap) l) : n = l.length ∧ l.length ≤ cap ∧ cap ≤ maxLen ∧ B ≤ g ∧ g < w.heap.size ∧ (∀ j, w.frozen? ⟨g, j, none⟩ = false) ∧
    ∀ i x, l[i]? = some x → ∀ j u, (c x)[j]? = some u → w.cell? ⟨g, i * sz + j, none⟩ = some u := by
  have hn : n = l.length := by
    rcases h.2 with ⟨h0, _⟩ | ⟨g', cap', cur, hv, _⟩
    · cases h0
    · injection hv
  subst hn
  obtain ⟨cur, h1, h2, h3, h4, h5, h6⟩ := own_blk h
  refine ⟨rfl, h3, h4, h1, h2.lt, h2.frozen, fun i x hi j u hu => ?_⟩
  have hj : j < sz := by rw [← E.len x]; exact (List.getElem?_eq_some_iff.1 hu).1
  have := World.ownsRow.cells h (g := g) rfl (i * sz + j) u (by rw [fm_get E l i j x hi hj]; exact hu)
  rwa [add_lit, Nat.zero_add] at this
theorem Rw.cut (E : Enc c sz) (h : Rw c sz w B e (.slice (some ⟨g, 0, none⟩) n cap) l) (j : Nat) (hj : j ≤ l.length) : Rw c sz w B e (.slice (some ⟨g, 0, none⟩) j cap) (l.take j) := by
  obtain ⟨rfl, h1, h2, _⟩ := h.at_ E
  obtain ⟨cur, k1, k2, k3, k4, k5, k6⟩ := own_blk h
  unfold Rw
  have hl : (l.take j).length = j := by simp; omega
  rw [hl]
  refine ⟨by rw [fm_len E, hl], .inr ⟨g, cap, cur, rfl, k1, k2, by omega, k4, k5, ?_⟩⟩
  rw [fm_take E, ← k6, List.take_take]
  congr 1
  rw [Nat.min_eq_left (Nat.mul_le_mul_right _ hj)]
theorem Rw.rd (h : Rw c sz w B e (.slice A n cap) l) : RdR c sz w w.heap.size A l := by
  have hn : n = l.length := by
    rcases h.2 with ⟨h0, h1⟩ | ⟨g', cap', cur, hv, _⟩
    · injection h0 with _ h2 _; omega
    · injection hv
  subst hn
  exact Reads.of_own h
theorem RdR.at_ (E : Enc c sz) (h : RdR c sz w B A l) {i : Nat} {x : α} (hi : l[i]? = some x) (_hs : 0 < sz) : ∃ b off, A = some ⟨b, off, none⟩ ∧ b < B ∧ b < w.heap.size ∧ ∀ j u, (c x)[j]? = some u → w.cell? ⟨b, off + (i * sz + j), none⟩ = some u := by
  have hl : i < l.length := (List.getElem?_eq_some_iff.1 hi).1
  obtain ⟨b, off, hA, hb, hs, hc⟩ := h.2 (by omega)
  refine ⟨b, off, hA, hb, hs, fun j u hu => hc _ _ ?_⟩
  have hj : j < sz := by rw [← E.len x]; exact (List.getElem?_eq_some_iff.1 hu).1
  rw [fm_get E l i j x hi hj]; exact hu
theorem RdR.below {C : Nat} (h : RdR c sz w B A l) (hb : Below C w w') (hC : B ≤ C ∨ w.heap.size ≤ C) : RdR c sz w' B A l := Reads.below h hb hC
theorem RdR.frmA {F : Nat → Prop} (h : RdR c sz w B A l) (hf : Frm F w w') (hF : ∀ b off, A = some ⟨b, off, none⟩ → ¬ F b) : RdR c sz w' B A l := Reads.frmA h hf hF
theorem RdR.alloc (h : RdR c sz w B A l) (o : Obj) : RdR c sz (w.alloc o) B A l := Reads.alloc h o
theorem RdR.drew (h : RdR c sz w B A l) : RdR c sz w.drew B A l := h
theorem RdR.more {B' : Nat} (h : RdR c sz w B A l) (hB : B ≤ B') : RdR c sz w B' A l := Reads.more h hB
end

section
variable {α : Type} {c : α → List Value} {sz : Nat} {P : Program} {t e : TypeId} {bytes : Nat} {w : World} {ops : Array Oper} {rest : List Oper} {o : Oper} {a : Act} {Q : Exit → Act → World → Prop}
/-- append of one record. -/
theorem wpList_appR (E : Enc c sz) (T : ElemT P t e sz bytes) {s x : Operand} (hgd : o.guard = none)
    (ho : o.op = .call { callee := .builtin .append, args := #[s, x], argTypes := #[t, t] }) {base : Nat} {v : Value} {l : List α} (hs : a.eval s = v) (hown : Rw c sz w base e v l)
    {q : Nat} {y : α} {cs : Array Value} (hx : a.eval x = .slice (some ⟨q, 0, none⟩) 1 1) (hk : Blk w q e cs) (hcs : cs.toList = c y)
    (h63 : l.length + 1 ≤ maxLen) (hbytes : (l.length + 1) * bytes ≤ 140737488355328) (hbase : base ≤ w.heap.size)
    (h : ∀ g cap w', Rw c sz w' base e (.slice (some ⟨g, 0, none⟩) (l.length + 1) cap) (l ++ [y]) → w.grownBy w' v.ownBlock → (v.ownBlock = some g ∨ g = w.heap.size) →
      wpList P ops Q rest (a.put o.dst (.slice (some ⟨g, 0, none⟩) (l.length + 1) cap)) w') : wpList P ops Q (o :: rest) a w := by
  refine wpList_app1 T hgd ho hs hown hx hk (by rw [← Array.length_toList, hcs, E.len]) (by rw [hcs]; exact E.one y) h63 hbytes hbase fun g cap w' h1 h2 h3 => h g cap w' ?_ h2 h3
  unfold Rw
  rw [hcs] at h1
  simpa using h1
/-- append of a slice of records. -/
theorem wpList_appRs (E : Enc c sz) (T : ElemT P t e sz bytes) {s x : Operand} (hgd : o.guard = none)
    (ho : o.op = .call { callee := .builtin .append, args := #[s, x], argTypes := #[t, t] }) {base : Nat} {v : Value} {l : List α} (hs : a.eval s = v) (hown : Rw c sz w base e v l)
    {B : Nat} {A : Option Addr} {m k : Nat} {l' : List α} (hm : m = l'.length) (hx : a.eval x = .slice A m k) (hr : RdR c sz w B A l')
    (h63 : l.length + l'.length ≤ maxLen) (hbytes : (l.length + l'.length) * bytes ≤ 140737488355328) (hbase : base ≤ w.heap.size)
    (h : ∀ v' w', Rw c sz w' base e v' (l ++ l') → w.grownBy w' v.ownBlock → (v'.ownBlock = v.ownBlock ∨ v'.ownBlock = some w.heap.size) →
      wpList P ops Q rest (a.put o.dst v') w') : wpList P ops Q (o :: rest) a w := by
  subst hm
  refine wpList_app T hgd ho hs hown hx hr (fm_one E _) h63 hbytes hbase fun v' w' h1 h2 h3 => h v' w' ?_ h2 h3
  unfold Rw
  simpa using h1
end


section
variable {α : Type} {c : α → List Value} {sz : Nat} {w : World} {B g n cap : Nat} {e : TypeId} {l : List α}
theorem fm_set (E : Enc c sz) : ∀ (l : List α) (i j : Nat) (x y : α) (u : Value), l[i]? = some x → j < sz → c y = (c x).set j u → (l.flatMap c).set (i * sz + j) u = (l.set i y).flatMap c
  | [], i, j, x, y, u, h, _, _ => by simp at h
  | a :: l, 0, j, x, y, u, h, hj, hy => by
    have : a = x := by simpa using h
    subst this
    rw [List.flatMap_cons, List.set_cons_zero, List.flatMap_cons, Nat.zero_mul, Nat.zero_add, List.set_append_left _ _ (by rw [E.len]; exact hj), hy]
  | a :: l, i + 1, j, x, y, u, h, hj, hy => by
    rw [List.flatMap_cons, List.set_cons_succ, List.flatMap_cons, List.set_append_right _ _ (by rw [E.len, Nat.succ_mul]; omega), E.len, ← fm_set E l i j x y u (by simpa using h) hj hy]
    congr 2
    rw [Nat.succ_mul]; omega
/-- A store into a record. -/
theorem Rw.set (E : Enc c sz) (h : Rw c sz w B e (.slice (some ⟨g, 0, none⟩) n cap) l) {i j : Nat} {x y : α} {u : Value} (hi : l[i]? = some x) (hj : j < sz) (hy : c y = (c x).set j u) : Rw c sz (w.setCell ⟨g, i * sz + j, none⟩ u) B e (.slice (some ⟨g, 0, none⟩) n cap) (l.set i y) := by
  obtain ⟨rfl, _⟩ := h.at_ E
  have := (World.ownsRow.stored h (i * sz + j) u).1
  unfold Rw
  rw [fm_set E l i j x y u hi hj hy] at this
  rw [List.length_set]
  exact this
end
end Go.Proofs.YtaekdnfpgkfjkaaDoor
