/- A row of records: cells, a part of it, append. A pile of brackets: what it is, made, its length, its pairs. A pile of brackets: Open. Backward over a row of opening brackets: what the iterator tells. -/
import Derived.Test.YtpdackbcnbhppaaKit2
import Derived.Test.YtpdackbcnbhppaaQ6
import Derived.Test.YtpdackbcnbhppaaQ14
import Derived.Test.YtpdackbcnbhppaaH3
import Derived.Test.YtpdackbcnbhppaaT4
namespace Go.Proofs.Ytpdackbcnbhppaa
open Go.RowKit

/-- How a record is laid: so many cells. -/
structure Enc {α : Type} (c : α → List Value) (sz : Nat) : Prop where
  len : ∀ x, (c x).length = sz
  one : ∀ x, ∀ u ∈ c x, u.oneCell' = true
theorem fm_len {α : Type} {c : α → List Value} {sz : Nat} (E : Enc c sz) : ∀ l : List α, (l.flatMap c).length = l.length * sz
  | [] => by simp
  | a :: l => by rw [List.flatMap_cons, List.length_append, fm_len E l, E.len, List.length_cons, Nat.succ_mul]; omega
theorem fm_one {α : Type} {c : α → List Value} {sz : Nat} (E : Enc c sz) (l : List α) : ∀ u ∈ l.flatMap c, u.oneCell' = true := by
  intro u hu
  obtain ⟨x, _, h⟩ := List.mem_flatMap.1 hu
  exact E.one x u h
theorem fm_get {α : Type} {c : α → List Value} {sz : Nat} (E : Enc c sz) : ∀ (l : List α) (i j : Nat) (x : α), l[i]? = some x → j < sz → (l.flatMap c)[i * sz + j]? = (c x)[j]?
  | [], i, j, x, h, _ => by simp at h
  | a :: l, 0, j, x, h, hj => by
    have : a = x := by simpa using h
    subst this
    rw [List.flatMap_cons, Nat.zero_mul, Nat.zero_add, List.getElem?_append_left (by rw [E.len]; exact hj)]
  | a :: l, i + 1, j, x, h, hj => by
    rw [List.flatMap_cons, List.getElem?_append_right (by rw [E.len, Nat.succ_mul]; omega), E.len, ← fm_get E l i j x (by simpa using h) hj]
    congr 1
    rw [Nat.succ_mul]; omega
theorem fm_take {α : Type} {c : α → List Value} {sz : Nat} (E : Enc c sz) : ∀ (l : List α) (i : Nat), (l.take i).flatMap c = (l.flatMap c).take (i * sz)
  | [], i => by simp
  | a :: l, 0 => by simp
  | a :: l, i + 1 => by
    rw [List.take_succ_cons, List.flatMap_cons, List.flatMap_cons, fm_take E l i, Nat.succ_mul, Nat.add_comm, ← E.len a, List.take_length_add_append]

/-- A row of the call's own. -/
def Rw {α : Type} (c : α → List Value) (sz : Nat) (w : World) (B : Nat) (e : TypeId) (v : Value) (l : List α) : Prop := w.ownsRow B e sz v l.length (l.flatMap c)
/-- What is read. -/
def RdR {α : Type} (c : α → List Value) (sz : Nat) (w : World) (B : Nat) (A : Option Addr) (l : List α) : Prop := Reads w B sz A l.length (l.flatMap c)

section
variable {α : Type} {c : α → List Value} {sz : Nat} {w w' : World} {B g n cap : Nat} {e : TypeId} {v : Value} {l : List α} {A : Option Addr}
theorem Rw.nil (w : World) (B : Nat) (e : TypeId) : Rw c sz w B e (.slice none 0 0) [] := World.ownsRow_nil _ _ _ _
theorem Rw.frm {F : Nat → Prop} (h : Rw c sz w B e v l) (hf : Frm F w w') (hg : ∀ j, v.ownBlock = some j → ¬ F j) : Rw c sz w' B e v l := own_frm h hf hg
theorem Rw.alloc (h : Rw c sz w B e v l) (o : Obj) : Rw c sz (w.alloc o) B e v l := World.ownsRow.alloc h o
theorem Rw.drew (h : Rw c sz w B e v l) : Rw c sz w.drew B e v l := h
theorem Rw.drewN (h : Rw c sz w B e v l) (j : Nat) : Rw c sz (w.drewN j) B e v l := h
theorem Rw.kept {row : Option Nat} (h : Rw c sz w B e v l) (hg : w.grownBy w' row) (hne : v.ownBlock = none ∨ v.ownBlock ≠ row) : Rw c sz w' B e v l := World.ownsRow.kept h hg hne
theorem Rw.lt (h : Rw c sz w B e v l) : ∀ j, v.ownBlock = some j → B ≤ j ∧ j < w.heap.size := World.ownsRow.lt h
theorem Rw.below {C : Nat} (h : Rw c sz w B e v l) (hb : Below C w w') (hC : w.heap.size ≤ C) : Rw c sz w' B e v l :=
  own_frm h (Frm.of_below (F := fun _ => False) (hb.mono hC)) (fun _ _ h => h)
theorem Rw.base {B' : Nat} (h : Rw c sz w B e v l) (hb : ∀ j, v.ownBlock = some j → B' ≤ j) : Rw c sz w B' e v l := own_base h hb
theorem Rw.cases' (h : Rw c sz w B e v l) : (v = .slice none 0 0 ∧ l = []) ∨ ∃ g cap, v = .slice (some ⟨g, 0, none⟩) l.length cap ∧ Rw c sz w B e (.slice (some ⟨g, 0, none⟩) l.length cap) l := by
  have h1 := h
  rcases h.2 with ⟨rfl, h0⟩ | ⟨g, cap, cur, rfl, _⟩
  · exact .inl ⟨rfl, List.eq_nil_of_length_eq_zero h0⟩
  · exact .inr ⟨g, cap, rfl, h1⟩
theorem Rw.val (h : Rw c sz w B e v l) : ∃ A cap, v = .slice A l.length cap ∧ l.length ≤ cap ∧ cap ≤ maxLen ∧ RdR c sz w w.heap.size A l := by
  have h1 := h
  rcases h.2 with ⟨rfl, h0⟩ | ⟨g, cap, cur, rfl, _, _, h3, h4, _⟩
  · have : l = [] := List.eq_nil_of_length_eq_zero h0
    subst this
    exact ⟨none, 0, rfl, by simp, by simp, Reads.none_⟩
  · exact ⟨_, cap, rfl, h3, h4, Reads.of_own h1⟩
theorem Rw.at_ (E : Enc c sz) (h : Rw c sz w B e (.slice (some ⟨g, 0, none⟩) n cap) l) : n = l.length ∧ l.length ≤ cap ∧ cap ≤ maxLen ∧ B ≤ g ∧ g < w.heap.size ∧ (∀ j, w.frozen? ⟨g, j, none⟩ = false) ∧
    ∀ i x, l[i]? = some x → ∀ j u, (c x)[j]? = some u → w.cell? ⟨g, i * sz + j, none⟩ = some u := by
  have hn : n = l.length := by
    rcases h.2 with ⟨h0, _⟩ | ⟨g', cap', cur, hv, _⟩
    · cases h0
    · injection hv
  subst hn
  obtain ⟨cur, h1, h2, h3, h4, h5, h6⟩ := own_blk h
  refine ⟨rfl, h3, h4, h1, h2.lt, h2.frozen, fun i x hi j u hu => ?_⟩
  have hj : j < sz := by rw [← E.len x]; exact (List.getElem?_eq_some_iff.1 hu).1
  have := World.ownsRow.cells h (g := g) rfl (i * sz + j) u (by rw [fm_get E l i j x hi hj]; exact hu)
  rwa [add_lit, Nat.zero_add] at this
theorem Rw.cut (E : Enc c sz) (h : Rw c sz w B e (.slice (some ⟨g, 0, none⟩) n cap) l) (j : Nat) (hj : j ≤ l.length) : Rw c sz w B e (.slice (some ⟨g, 0, none⟩) j cap) (l.take j) := by
  obtain ⟨rfl, h1, h2, _⟩ := h.at_ E
  obtain ⟨cur, k1, k2, k3, k4, k5, k6⟩ := own_blk h
  unfold Rw
  have hl : (l.take j).length = j := by simp; omega
  rw [hl]
  refine ⟨by rw [fm_len E, hl], .inr ⟨g, cap, cur, rfl, k1, k2, by omega, k4, k5, ?_⟩⟩
  rw [fm_take E, ← k6, List.take_take]
  congr 1
  rw [Nat.min_eq_left (Nat.mul_le_mul_right _ hj)]
theorem Rw.rd (h : Rw c sz w B e (.slice A n cap) l) : RdR c sz w w.heap.size A l := by
  have hn : n = l.length := by
    rcases h.2 with ⟨h0, h1⟩ | ⟨g', cap', cur, hv, _⟩
    · injection h0 with _ h2 _; omega
    · injection hv
  subst hn
  exact Reads.of_own h
theorem RdR.at_ (E : Enc c sz) (h : RdR c sz w B A l) {i : Nat} {x : α} (hi : l[i]? = some x) (_hs : 0 < sz) : ∃ b off, A = some ⟨b, off, none⟩ ∧ b < B ∧ b < w.heap.size ∧ ∀ j u, (c x)[j]? = some u → w.cell? ⟨b, off + (i * sz + j), none⟩ = some u := by
  have hl : i < l.length := (List.getElem?_eq_some_iff.1 hi).1
  obtain ⟨b, off, hA, hb, hs, hc⟩ := h.2 (by omega)
  refine ⟨b, off, hA, hb, hs, fun j u hu => hc _ _ ?_⟩
  have hj : j < sz := by rw [← E.len x]; exact (List.getElem?_eq_some_iff.1 hu).1
  rw [fm_get E l i j x hi hj]; exact hu
theorem RdR.below {C : Nat} (h : RdR c sz w B A l) (hb : Below C w w') (hC : B ≤ C ∨ w.heap.size ≤ C) : RdR c sz w' B A l := Reads.below h hb hC
theorem RdR.frmA {F : Nat → Prop} (h : RdR c sz w B A l) (hf : Frm F w w') (hF : ∀ b off, A = some ⟨b, off, none⟩ → ¬ F b) : RdR c sz w' B A l := Reads.frmA h hf hF
theorem RdR.alloc (h : RdR c sz w B A l) (o : Obj) : RdR c sz (w.alloc o) B A l := Reads.alloc h o
theorem RdR.drew (h : RdR c sz w B A l) : RdR c sz w.drew B A l := h
theorem RdR.more {B' : Nat} (h : RdR c sz w B A l) (hB : B ≤ B') : RdR c sz w B' A l := Reads.more h hB
end

section
variable {α : Type} {c : α → List Value} {sz : Nat} {P : Program} {t e : TypeId} {bytes : Nat} {w : World} {ops : Array Oper} {rest : List Oper} {o : Oper} {a : Act} {Q : Exit → Act → World → Prop}
/-- append of one record. -/
theorem wpList_appR (E : Enc c sz) (T : ElemT P t e sz bytes) {s x : Operand} (hgd : o.guard = none)
    (ho : o.op = .call { callee := .builtin .append, args := #[s, x], argTypes := #[t, t] }) {base : Nat} {v : Value} {l : List α} (hs : a.eval s = v) (hown : Rw c sz w base e v l)
    {q : Nat} {y : α} {cs : Array Value} (hx : a.eval x = .slice (some ⟨q, 0, none⟩) 1 1) (hk : Blk w q e cs) (hcs : cs.toList = c y)
    (h63 : l.length + 1 ≤ maxLen) (hbytes : (l.length + 1) * bytes ≤ 140737488355328) (hbase : base ≤ w.heap.size)
    (h : ∀ g cap w', Rw c sz w' base e (.slice (some ⟨g, 0, none⟩) (l.length + 1) cap) (l ++ [y]) → w.grownBy w' v.ownBlock → (v.ownBlock = some g ∨ g = w.heap.size) →
      wpList P ops Q rest (a.put o.dst (.slice (some ⟨g, 0, none⟩) (l.length + 1) cap)) w') : wpList P ops Q (o :: rest) a w := by
  refine wpList_app1 T hgd ho hs hown hx hk (by rw [← Array.length_toList, hcs, E.len]) (by rw [hcs]; exact E.one y) h63 hbytes hbase fun g cap w' h1 h2 h3 => h g cap w' ?_ h2 h3
  unfold Rw
  rw [hcs] at h1
  simpa using h1
/-- append of a slice of records. -/
theorem wpList_appRs (E : Enc c sz) (T : ElemT P t e sz bytes) {s x : Operand} (hgd : o.guard = none)
    (ho : o.op = .call { callee := .builtin .append, args := #[s, x], argTypes := #[t, t] }) {base : Nat} {v : Value} {l : List α} (hs : a.eval s = v) (hown : Rw c sz w base e v l)
    {B : Nat} {A : Option Addr} {m k : Nat} {l' : List α} (hm : m = l'.length) (hx : a.eval x = .slice A m k) (hr : RdR c sz w B A l')
    (h63 : l.length + l'.length ≤ maxLen) (hbytes : (l.length + l'.length) * bytes ≤ 140737488355328) (hbase : base ≤ w.heap.size)
    (h : ∀ v' w', Rw c sz w' base e v' (l ++ l') → w.grownBy w' v.ownBlock → (v'.ownBlock = v.ownBlock ∨ v'.ownBlock = some w.heap.size) →
      wpList P ops Q rest (a.put o.dst v') w') : wpList P ops Q (o :: rest) a w := by
  subst hm
  refine wpList_app T hgd ho hs hown hx hr (fm_one E _) h63 hbytes hbase fun v' w' h1 h2 h3 => h v' w' ?_ h2 h3
  unfold Rw
  simpa using h1
end

theorem encB : Enc brC 2 := ⟨fun _ => rfl, fun x u hu => by simp [brC] at hu; rcases hu with rfl | rfl <;> rfl⟩
/-- An opening bracket on the pile: its place and the key that closes it. -/
def opC (x : Int × Int) : List Value := [.int .i64 x.1, .int .i32 x.2]
theorem encO : Enc opC 2 := ⟨fun _ => rfl, fun x u hu => by simp [opC] at hu; rcases hu with rfl | rfl <;> rfl⟩
/-- Pairs of the call's own are a block of pairs. -/
theorem Rw.prs {w : World} {B g n cap : Nat} {D : List (Int × Int)} (h : Rw brC 2 w B 65 (.slice (some ⟨g, 0, none⟩) n cap) D) : Prs w g D := by
  obtain ⟨rfl, h1, h2, h3, h4, h5, h6⟩ := h.at_ encB
  obtain ⟨cur, k1, k2, k3, k4, k5, k6⟩ := own_blk h
  refine ⟨cur, k2, by omega, fun i hi => ?_⟩
  have hx : D[i]? = some (D.getD i (0, 0)) := by rw [List.getD_eq_getElem?_getD, List.getElem?_eq_getElem hi]; rfl
  have c0 := h6 i _ hx 0 _ rfl
  have c1 := h6 i _ hx 1 _ rfl
  rw [k2.cell] at c0 c1
  exact ⟨c0, c1⟩
theorem Prs.rd {w : World} {g : Nat} {D : List (Int × Int)} (h : Prs w g D) : RdR brC 2 w w.heap.size (some ⟨g, 0, none⟩) D := by
  refine ⟨fm_len encB D, fun _ => ⟨g, 0, rfl, h.lt, h.lt, fun j u hu => ?_⟩⟩
  have hj : j < D.length * 2 := by rw [← fm_len encB D]; exact (List.getElem?_eq_some_iff.1 hu).1
  have hi : j / 2 < D.length := by omega
  have hx : D[j / 2]? = some (D.getD (j / 2) (0, 0)) := by rw [List.getD_eq_getElem?_getD, List.getElem?_eq_getElem hi]; rfl
  have hg := fm_get encB D (j / 2) (j % 2) _ hx (Nat.mod_lt _ (by omega))
  have e : j / 2 * 2 + j % 2 = j := by omega
  rw [e, hu] at hg
  obtain ⟨c0, c1⟩ := h.cell hi
  rw [Nat.zero_add]
  rcases Nat.mod_two_eq_zero_or_one j with h0 | h0
  · rw [h0] at hg
    have : j = j / 2 * 2 := by omega
    rw [this, c0]; exact hg.symm
  · rw [h0] at hg
    have : j = j / 2 * 2 + 1 := by omega
    rw [this, c1]; exact hg.symm
end Go.Proofs.Ytpdackbcnbhppaa

namespace Go.Proofs.Ytpdackbcnbhppaa
open Go.RowKit
attribute [local go_sem] Oper.semAt_some

theorem etB : ElemT Try.prog 58 65 2 16 := ElemT.mk' (.agg #[.int .i64 0, .int .i64 0]) Try.underlying58 (by kernel_rfl) rfl (by omega)
theorem etO : ElemT Try.prog 138 145 2 16 := ElemT.mk' (.agg #[.int .i64 0, .int .i32 0]) Try.underlying138 (by kernel_rfl) rfl (by omega)
@[go_sem] theorem eql58_nil (w : World) (a : Option Addr) (n c : Nat) : (binOp .eql 58 (.slice a n c) (.slice none 0 0)).run Try.prog w = .ok (.bool a.isNone) w := _root_.Go.Lib.run_eql_slice_nil w 58 65 a n c 0 0 Try.underlying58

set_option maxRecDepth 100000 in
set_option maxHeartbeats 1000000 in
theorem CloneB_ok {w : World} {B : Nat} {A : Option Addr} {n c : Nat} {l : List (Int × Int)} (hn : n = l.length) (h : RdR brC 2 w B A l) (hl : n * 16 ≤ 140737488351232) :
    Calls Try.prog 75 #[.slice A n c] w fun r w' => ∃ v, r = .returned v ∧ Rw brC 2 w' w.heap.size 65 v l ∧ Below w.heap.size w w' := by
  have HN := Lib.hid hn
  rcases A with _ | ad
  · have hl0 : l = [] := by
      rcases l with _ | ⟨x, l⟩
      · rfl
      · obtain ⟨b, off, e, -⟩ := h.at_ encB (i := 0) (x := x) rfl (by omega)
        cases e
    clear hn
    go_enter Try.func75, Try.ntmps75
    go_wp2
    go_ret
    exact ⟨_, rfl, by rw [hl0]; exact Rw.nil _ _ _, Below.refl _ _⟩
  · clear hn
    have b0 := (Below.refl w.heap.size w).alloc (Nat.le_refl _) (.cells #[] 65)
    have o0 : Rw brC 2 (w.alloc (.cells #[] 65)) w.heap.size 65 (.slice (some ⟨w.heap.size, 0, none⟩) 0 0) [] :=
      ⟨by simp, .inr ⟨w.heap.size, 0, #[], rfl, Nat.le_refl _, Blk.new w 65 #[], Nat.le_refl _, by simp, rfl, rfl⟩⟩
    go_enter Try.func75, Try.ntmps75
    go_wp2_with (at_builtin; go_must (refine wpList_appRs encB etB rfl rfl rfl o0 HN.out rfl (h.alloc _) ?_ ?_ ?_ ?_))
    · have := HN.out; simp; unfold maxLen; omega
    · have := HN.out; simp; omega
    · simp
    intro v1 w1 I1 g1 hv1
    have b1 := b0.grown g1 (by simp) (fun k hk => by have : w.heap.size = k := by simpa [Value.ownBlock] using hk
                                                     omega)
    have I1 : Rw brC 2 w1 w.heap.size 65 v1 l := I1
    go_wp2
    go_ret
    exact ⟨v1, rfl, I1, b1⟩

set_option maxRecDepth 100000 in
set_option maxHeartbeats 1000000 in
theorem ins_nil (w : World) : Calls Try.prog 99 #[.slice none 0 0, .int .i64 0, .int .i64 0, .func (.func 77) #[] #[]] w fun r w' => r = .returned (.tuple #[]) ∧ w' = w := by
  go_enter Try.func99, Try.ntmps99
  go_wp2
  go_loopg [8] 0 (fun gk iv wr => iv = .int .i64 1 ∧ wr = w)
  case atStart => exact ⟨rfl, rfl⟩
  case round =>
    obtain ⟨rfl, rfl⟩ := hrel
    go_wp2
    go_end0
    exact ⟨rfl, rfl⟩
set_option maxRecDepth 100000 in
set_option maxHeartbeats 1000000 in
theorem stable_nil (w : World) : Calls Try.prog 94 #[.slice none 0 0, .int .i64 0, .func (.func 77) #[] #[]] w fun r w' => r = .returned (.tuple #[]) ∧ w' = w := by
  go_enter Try.func94, Try.ntmps94
  go_wp2
  go_loopg [7, 8] 0 (fun gk iv jv wr => iv = .int .i64 0 ∧ jv = .int .i64 20 ∧ wr = w)
  case atStart => exact ⟨rfl, rfl, rfl⟩
  case round =>
    obtain ⟨rfl, rfl, rfl⟩ := hrel
    go_wp2_with (go_at_call 99; refine (ins_nil _).mono ?_; rintro r1 w1 ⟨rfl, rfl⟩)
    obtain ⟨W0, rfl⟩ : ∃ W0, W0 = w1 := ⟨_, rfl⟩
    go_loopg [6] 0 (fun gk iv W => iv = .int .i64 20 ∧ W = W0)
    case atStart => exact ⟨rfl, rfl⟩
    case round =>
      obtain ⟨rfl, rfl⟩ := hrel
      go_wp2
      go_end0
      exact ⟨rfl, rfl⟩
set_option maxRecDepth 100000 in
set_option maxHeartbeats 1000000 in
theorem sort_nil (w : World) : Calls Try.prog 76 #[.slice none 0 0, .func (.func 77) #[] #[]] w fun r w' => r = .returned (.tuple #[]) ∧ w' = w := by
  go_enter Try.func76, Try.ntmps76
  go_wp2_with (go_at_call 94; refine (stable_nil _).mono ?_; rintro r1 w1 ⟨rfl, rfl⟩)
  go_end0
  exact ⟨rfl, rfl⟩
set_option maxRecDepth 100000 in
set_option maxHeartbeats 1000000 in
theorem sort_ok {w : World} {g n cap : Nat} {D : List (Int × Int)} (hn : n = D.length) (hP : Prs w g D) (hm : n ≤ 1152921504606846976) :
    Calls Try.prog 76 #[.slice (some ⟨g, 0, none⟩) n cap, .func (.func 77) #[] #[]] w fun r w' => r = .returned (.tuple #[]) ∧ Prs w' g (ssort D) ∧ Frm (fun j => j = g) w w' := by
  have CT := stable_ok (cap := cap) hn hP hm
  clear hn
  go_enter Try.func76, Try.ntmps76
  go_wp2_with (go_at_call 94; refine CT.mono ?_; rintro r1 w1 ⟨rfl, P1, F1⟩)
  go_end0
  exact ⟨rfl, P1, F1⟩

/-- A pile: its block, its opening brackets, the pairs found, has finding ended? -/
structure Pil (W : World) (B b : Nat) (vl vf : Value) (l f : List (Int × Int)) (ov : Bool) : Prop where
  blk : Blk W b 140 #[vl, vf, .bool ov, .bool true]
  rl : Rw opC 2 W B 145 vl l
  rf : Rw brC 2 W B 65 vf f
  a1 : ∀ j, vl.ownBlock = some j → j ≠ b ∧ vf.ownBlock ≠ some j
  a2 : ∀ j, vf.ownBlock = some j → j ≠ b
  hb : B ≤ b
/-- The blocks of a pile. -/
def PilF (b : Nat) (vl vf : Value) (j : Nat) : Prop := j = b ∨ vl.ownBlock = some j ∨ vf.ownBlock = some j
section
variable {W W' : World} {B b : Nat} {vl vf : Value} {l f : List (Int × Int)} {ov : Bool}
theorem Pil.frm {F : Nat → Prop} (h : Pil W B b vl vf l f ov) (hf : Frm F W W') (hn : ∀ j, PilF b vl vf j → ¬ F j) : Pil W' B b vl vf l f ov :=
  ⟨h.blk.frm hf (hn _ (.inl rfl)), h.rl.frm hf (fun j e => hn j (.inr (.inl e))), h.rf.frm hf (fun j e => hn j (.inr (.inr e))), h.a1, h.a2, h.hb⟩
theorem Pil.lt (h : Pil W B b vl vf l f ov) : ∀ j, PilF b vl vf j → B ≤ j ∧ j < W.heap.size := by
  rintro j (rfl | e | e)
  · exact ⟨h.hb, h.blk.lt⟩
  · exact h.rl.lt j e
  · exact h.rf.lt j e
theorem Pil.below {C : Nat} (h : Pil W B b vl vf l f ov) (hb : Below C W W') (hC : W.heap.size ≤ C) : Pil W' B b vl vf l f ov :=
  h.frm (Frm.of_below (F := fun _ => False) (hb.mono hC)) (fun _ _ h => h)
theorem Pil.drew (h : Pil W B b vl vf l f ov) : Pil W.drew B b vl vf l f ov := ⟨h.blk, h.rl, h.rf, h.a1, h.a2, h.hb⟩
theorem Pil.drewN (h : Pil W B b vl vf l f ov) (n : Nat) : Pil (W.drewN n) B b vl vf l f ov := ⟨h.blk, h.rl, h.rf, h.a1, h.a2, h.hb⟩
end

/-- A list of pairs that a call has answered. -/
def BrsAt (W : World) (B : Nat) (v : Value) (D : List (Int × Int)) : Prop := (v = .slice none 0 0 ∧ D = []) ∨ ∃ g cap, v = .slice (some ⟨g, 0, none⟩) D.length cap ∧ Prs W g D ∧ B ≤ g ∧ D.length ≤ cap

set_option maxRecDepth 100000 in
set_option maxHeartbeats 1000000 in
theorem PNew_ok {w : World} : Calls Try.prog 40 #[] w fun r w' => r = .returned (.pointer (some ⟨w.heap.size, 0, none⟩)) ∧ Pil w' w.heap.size w.heap.size (.slice none 0 0) (.slice none 0 0) [] [] false ∧ Below w.heap.size w w' := by
  go_enter Try.func40, Try.ntmps40
  go_wp2
  go_ret
  exact ⟨rfl, ⟨Blk.new w 140 _, Rw.nil _ _ _, Rw.nil _ _ _, by simp [Value.ownBlock], by simp [Value.ownBlock], Nat.le_refl _⟩, (Below.refl _ w).alloc (Nat.le_refl _) _⟩
set_option maxRecDepth 100000 in
set_option maxHeartbeats 1000000 in
theorem Pnone_ok {w : World} {b : Nat} {vl vf : Value} {ov : Bool} (h : Blk w b 140 #[vl, vf, .bool ov, .bool true]) : Calls Try.prog 73 #[.pointer (some ⟨b, 0, none⟩)] w fun r w' => r = .returned (.bool false) ∧ w' = w := by
  obtain ⟨c0, c1, c2, c3, cf, cl⟩ := h.c4
  go_enter Try.func73, Try.ntmps73
  go_wp2
  go_ret
  exact ⟨rfl, rfl⟩
set_option maxRecDepth 100000 in
set_option maxHeartbeats 1000000 in
theorem Pnone_nil {w : World} : Calls Try.prog 73 #[.pointer none] w fun r w' => r = .returned (.bool true) ∧ w' = w := by
  go_enter Try.func73, Try.ntmps73
  go_wp2
  go_ret
  exact ⟨rfl, rfl⟩
set_option maxRecDepth 100000 in
set_option maxHeartbeats 1000000 in
theorem Plen_ok {w : World} {B b : Nat} {vl vf : Value} {l f : List (Int × Int)} {ov : Bool} (h : Pil w B b vl vf l f ov) : Calls Try.prog 45 #[.pointer (some ⟨b, 0, none⟩)] w fun r w' => r = .returned (.int .i64 l.length) ∧ w' = w := by
  obtain ⟨A, c, rfl, h1, h2, _⟩ := h.rl.val
  obtain ⟨c0, c1, c2, c3, cf, cl⟩ := h.blk.c4
  go_enter Try.func45, Try.ntmps45
  go_wp2_with (go_at_call 73; refine (Pnone_ok h.blk).mono ?_; rintro r1 w1 ⟨rfl, rfl⟩)
  go_ret
  exact ⟨rfl, rfl⟩
set_option maxRecDepth 100000 in
set_option maxHeartbeats 1000000 in
theorem Plen_nil {w : World} : Calls Try.prog 45 #[.pointer none] w fun r w' => r = .returned (.int .i64 0) ∧ w' = w := by
  go_enter Try.func45, Try.ntmps45
  go_wp2_with (go_at_call 73; refine (Pnone_nil).mono ?_; rintro r1 w1 ⟨rfl, rfl⟩)
  go_ret
  exact ⟨rfl, rfl⟩
set_option maxRecDepth 100000 in
set_option maxHeartbeats 1000000 in
theorem Pbraces_nil {w : World} : Calls Try.prog 46 #[.pointer none] w fun r w' => r = .returned (.slice none 0 0) ∧ w' = w := by
  go_enter Try.func46, Try.ntmps46
  go_wp2_with (go_at_call 73; refine (Pnone_nil).mono ?_; rintro r1 w1 ⟨rfl, rfl⟩)
  go_ret
  exact ⟨rfl, rfl⟩
set_option maxRecDepth 100000 in
set_option maxHeartbeats 1000000 in
theorem Pbraces_ok {w : World} {B b : Nat} {vl vf : Value} {l f : List (Int × Int)} {ov : Bool} (h : Pil w B b vl vf l f ov) (hl : f.length * 16 ≤ 140737488351232) :
    Calls Try.prog 46 #[.pointer (some ⟨b, 0, none⟩)] w fun r w' => ∃ v, r = .returned v ∧ BrsAt w' w.heap.size v (ssort f) ∧ Below w.heap.size w w' := by
  obtain ⟨A, c, rfl, h1, h2, hr⟩ := h.rf.val
  obtain ⟨c0, c1, c2, c3, cf, cl⟩ := h.blk.c4
  have CN := Pnone_ok h.blk
  have CC := CloneB_ok (w := w) (c := c) rfl hr hl
  clear h h1 h2 hr
  obtain ⟨fl, hfl⟩ : ∃ fl, f.length = fl := ⟨_, rfl⟩
  rw [hfl] at c1 CC hl
  have HFL := Lib.hid hfl
  clear hfl
  go_enter Try.func46, Try.ntmps46
  go_wp2_with (first
    | (go_at_call 73; refine CN.mono ?_; rintro r1 w1 ⟨rfl, rfl⟩)
    | (go_at_call 75; refine CC.mono ?_; rintro r2 w2 ⟨cv, rfl, R2, b2⟩))
  rcases R2.cases' with ⟨rfl, rfl⟩ | ⟨g, cap, rfl, R3⟩
  · go_wp2_with (go_at_call 76; refine (sort_nil _).mono ?_; rintro r3 w3 ⟨rfl, rfl⟩)
    go_ret
    exact ⟨_, rfl, .inl ⟨rfl, rfl⟩, b2⟩
  · have hc := (R3.at_ encB)
    have CS := sort_ok (cap := cap) rfl R3.prs (by have := HFL.out; omega)
    go_wp2_with (go_at_call 76; refine CS.mono ?_; rintro r3 w3 ⟨rfl, P3, F3⟩)
    go_ret
    refine ⟨.slice (some ⟨g, 0, none⟩) f.length cap, rfl, .inr ⟨g, cap, by rw [ssort_length], P3, hc.2.2.2.1, by rw [ssort_length]; exact hc.2.1⟩, b2.trans (F3.below b2.size (fun k hk e => by have := hc.2.2.2.1; omega))⟩
end Go.Proofs.Ytpdackbcnbhppaa

namespace Go.Proofs.Ytpdackbcnbhppaa
open Go.RowKit
attribute [local go_sem] Oper.semAt_some

/-- What Open makes of a pile: its opening brackets, has finding ended, the number that it answers. -/
def opL (l : List (Int × Int)) (ov : Bool) (a k : Int) : List (Int × Int) := if ov then l else if 63 ≤ l.length then [] else l ++ [(a, k)]
def opV (l : List (Int × Int)) (ov : Bool) : Bool := ov || decide (63 ≤ l.length)
def opE (l : List (Int × Int)) (ov : Bool) : Int := if opV l ov then 3 else 0

/-- One more opening bracket: the row has grown, its slice is stored. -/
theorem Pil.push {w w2 : World} {B b n g cap : Nat} {vl vf : Value} {l l' f : List (Int × Int)} {ov : Bool} (h : Pil w B b vl vf l f ov) {o : Obj} (g2 : (w.alloc o).grownBy w2 vl.ownBlock)
    (R2 : Rw opC 2 w2 B 145 (.slice (some ⟨g, 0, none⟩) n cap) l') (hv : vl.ownBlock = some g ∨ g = w.heap.size + 1) :
    Blk w2 b 140 #[vl, vf, .bool ov, .bool true] ∧ Pil (w2.setCell ⟨b, 0, none⟩ (.slice (some ⟨g, 0, none⟩) n cap)) B b (.slice (some ⟨g, 0, none⟩) n cap) vf l' f ov ∧
      Frm (PilF b vl vf) w (w2.setCell ⟨b, 0, none⟩ (.slice (some ⟨g, 0, none⟩) n cap)) ∧ ∀ j, (Value.slice (some ⟨g, 0, none⟩) n cap).ownBlock = some j → vl.ownBlock = some j ∨ w.heap.size ≤ j := by
  have F2 : Frm (fun j => vl.ownBlock = some j) w w2 := ((Frm.refl _ w).alloc _).grown g2 (fun k hk _ => hk)
  have hB2 : Blk w2 b 140 #[vl, vf, .bool ov, .bool true] := h.blk.frm F2 (fun e => (h.a1 b e).1 rfl)
  have hgb : g ≠ b := by
    rcases hv with e | e
    · exact (h.a1 g e).1
    · have := h.blk.lt; omega
  have hgf : vf.ownBlock ≠ some g := by
    rcases hv with e | e
    · exact (h.a1 g e).2
    · intro e2
      have := (h.rf.lt g e2).2; omega
  have F1 : Frm (fun j => j = b) w2 (w2.setCell ⟨b, 0, none⟩ (.slice (some ⟨g, 0, none⟩) n cap)) := (Frm.refl (fun j => j = b) w2).set rfl _
  refine ⟨hB2, ⟨by simpa using hB2.set_ 0 (.slice (some ⟨g, 0, none⟩) n cap), R2.frm F1 (fun j e => ?_), (h.rf.frm F2 (fun j e e2 => (h.a1 j e2).2 e)).frm F1 (fun j e => h.a2 j e), fun j e => ?_, h.a2, h.hb⟩,
    (F2.mono (fun j _ e => Or.inr (Or.inl e))).trans F1 (fun j _ e => .inl e), fun j e => ?_⟩
  · have : g = j := by simpa [Value.ownBlock] using e
    omega
  · have : g = j := by simpa [Value.ownBlock] using e
    subst this; exact ⟨hgb, hgf⟩
  · have : g = j := by simpa [Value.ownBlock] using e
    subst this
    rcases hv with e | e
    · exact .inl e
    · exact .inr (by omega)

set_option maxRecDepth 100000 in
set_option maxHeartbeats 1000000 in
theorem Popen_nil (w : World) (a k : Int) : Calls Try.prog 43 #[.pointer none, .int .i64 a, .int .i32 k] w fun r w' => r = .returned (.int .i64 1) ∧ w' = w := by
  go_enter Try.func43, Try.ntmps43
  go_wp2_with (go_at_call 73; refine (Pnone_nil).mono ?_; rintro r1 w1 ⟨rfl, rfl⟩)
  go_ret
  exact ⟨rfl, rfl⟩

set_option maxRecDepth 100000 in
set_option maxHeartbeats 2000000 in
theorem Popen_ok {w : World} {B b : Nat} {vl vf : Value} {l f : List (Int × Int)} {ov : Bool} (a k : Int) (h : Pil w B b vl vf l f ov) :
    Calls Try.prog 43 #[.pointer (some ⟨b, 0, none⟩), .int .i64 a, .int .i32 k] w fun r w' => r = .returned (.int .i64 (opE l ov)) ∧ ∃ vl', Pil w' B b vl' vf (opL l ov a k) f (opV l ov) ∧ Frm (PilF b vl vf) w w' ∧
      ∀ j, vl'.ownBlock = some j → vl.ownBlock = some j ∨ w.heap.size ≤ j := by
  obtain ⟨A, c, rfl, h1, h2, hr⟩ := h.rl.val
  obtain ⟨c0, c1, c2, c3, cf, cl⟩ := h.blk.c4
  have CN := Pnone_ok h.blk
  clear hr
  cases ov
  · by_cases hlen : 63 ≤ l.length
    · have e1 : opL l false a k = [] := by unfold opL; rw [if_neg (by decide), if_pos hlen]
      have e2 : opV l false = true := by unfold opV; simp; exact hlen
      have e3 : opE l false = 3 := by unfold opE; rw [if_pos e2]
      rw [e1, e2, e3]
      clear e1 e2 e3
      obtain ⟨ll, hll⟩ : ∃ ll, l.length = ll := ⟨_, rfl⟩
      rw [hll] at c0 hlen h h1
      have HLL := Lib.hid hll
      clear hll
      go_enter Try.func43, Try.ntmps43
      go_wp2_with (go_at_call 73; refine CN.mono ?_; rintro r1 w1 ⟨rfl, rfl⟩)
      go_ret
      have P1 : Blk ((w1.setCell ⟨b, 2, none⟩ (.bool true)).setCell ⟨b, 0, none⟩ (.slice none 0 0)) b 140 #[.slice none 0 0, vf, .bool true, .bool true] := by
        simpa using (h.blk.set_ 2 (.bool true)).set_ 0 (.slice none 0 0)
      have F1 : Frm (fun j => j = b) w1 ((w1.setCell ⟨b, 2, none⟩ (.bool true)).setCell ⟨b, 0, none⟩ (.slice none 0 0)) := ((Frm.refl (fun j => j = b) w1).set rfl _).set rfl _
      exact ⟨rfl, .slice none 0 0, ⟨P1, Rw.nil _ _ _, h.rf.frm F1 (fun j e e2 => h.a2 j e e2), by simp [Value.ownBlock], h.a2, h.hb⟩, F1.mono (fun j _ e => .inl e), by simp [Value.ownBlock]⟩
    · have e1 : opL l false a k = l ++ [(a, k)] := by unfold opL; rw [if_neg (by decide), if_neg hlen]
      have e2 : opV l false = false := by unfold opV; simp; omega
      have e3 : opE l false = 0 := by unfold opE; rw [e2]; rfl
      rw [e1, e2, e3]
      clear e1 e2 e3
      have hb1 : b < w.heap.size := cl
      have hB : B ≤ w.heap.size := by have := h.hb; omega
      have hrl := h.rl
      have hla := hrl.lt
      obtain ⟨ll, hll⟩ : ∃ ll, l.length = ll := ⟨_, rfl⟩
      rw [hll] at c0 hlen h h1 hrl hla
      have HLL := Lib.hid hll
      have hll2 := hll
      clear hll
      go_enter Try.func43, Try.ntmps43
      go_wp2_with (first
        | (go_at_call 73; refine CN.mono ?_; rintro r1 w1 ⟨rfl, rfl⟩)
        | (at_builtin; go_must (refine wpList_appR (y := (a, k)) encO etO rfl rfl rfl (hrl.alloc _) rfl (Blk.at_ (by simp)) rfl ?_ ?_ ?_ ?_)))
      · have := hll2; unfold maxLen; omega
      · have := hll2; omega
      · simp; omega
      intro g cap w2 R2 g2 hv
      obtain ⟨B2, P3, F3, hv3⟩ := h.push g2 R2 (by simpa using hv)
      obtain ⟨d0, d1, d2, d3, df, dl⟩ := B2.c4
      clear c0 c1 c2 c3 cf cl B2 CN
      go_wp2
      go_ret
      exact ⟨rfl, _, P3, by rw [hll2]; exact F3, by rw [hll2]; exact hv3⟩
  · have e1 : opL l true a k = l := rfl
    have e2 : opV l true = true := rfl
    have e3 : opE l true = 3 := rfl
    rw [e1, e2, e3]
    clear e1 e2 e3
    go_enter Try.func43, Try.ntmps43
    go_wp2_with (go_at_call 73; refine CN.mono ?_; rintro r1 w1 ⟨rfl, rfl⟩)
    go_ret
    exact ⟨rfl, _, h, Frm.refl _ _, fun j e => .inl e⟩
end Go.Proofs.Ytpdackbcnbhppaa

namespace Go.Proofs.Ytpdackbcnbhppaa
open Go.RowKit
attribute [local go_sem] Oper.semAt_some

/-- The last place ahead of k whose key it is. -/
def scanK (l : List (Int × Int)) (key : Int) : Nat → Option Nat
  | 0 => none
  | k + 1 => if (l.getD k (0, 0)).2 = key then some k else scanK l key k
theorem scanK_lt {l : List (Int × Int)} {key : Int} : ∀ {k j : Nat}, scanK l key k = some j → j < k
  | 0, j, h => by cases h
  | k + 1, j, h => by
    unfold scanK at h
    split at h
    · injection h with h; omega
    · have := scanK_lt h; omega

set_option maxRecDepth 100000 in
set_option maxHeartbeats 1000000 in
theorem BackO_ok {w : World} {A : Option Addr} {n c : Nat} :
    Calls Try.prog 74 #[.slice A n c] w fun r w' => r = .returned (.func (.func 93) #[] #[.pointer (some ⟨w.heap.size, 0, none⟩)]) ∧ Blk w' w.heap.size 138 #[.slice A n c] ∧ Below w.heap.size w w' := by
  go_enter Try.func74, Try.ntmps74
  go_wp2
  go_ret
  exact ⟨rfl, Blk.new w 138 _, (Below.refl _ w).alloc (Nat.le_refl _) _⟩

def opEnc (k : Nat) (x : Int × Int) : Array Value := #[.int .i64 k, .agg #[.int .i64 x.1, .int .i32 x.2]]

set_option maxRecDepth 100000 in
set_option maxHeartbeats 2000000 in
theorem bwdO_ok {W1 : World} {bx yb n c B : Nat} {A : Option Addr} {l : List (Int × Int)} (hn : n = l.length) (hm : n ≤ 4611686018427387904)
    {J : Nat → World → Prop} (h0 : J n W1) (hJ : ∀ k W, J k W → Blk W bx 138 #[.slice A n c] ∧ RdR opC 2 W B A l) {Jx : World → Prop} {d : Nat} (hd : 1 ≤ d)
    (hY : ∀ k W, k < n → J (k + 1) W → YieldAt Fence.wide (d - 1) Try.prog yb (opEnc k (l.getD k (0, 0))) W fun e W' =>
      (e = .returned (.bool true) ∧ J k W') ∨ (e = .returned (.bool false) ∧ Jx W')) :
    CallsIn Fence.wide d Try.prog 93 #[.func (.yield yb) #[] #[], .pointer (some ⟨bx, 0, none⟩)] W1 fun e W' => (∃ v, e = .returned v) ∧ (J 0 W' ∨ Jx W') := by
  have HN := Lib.hid hn
  clear hn
  obtain ⟨x0, xf, xl⟩ := (hJ n W1 h0).1.c1
  refine callsIn_of_wp Try.func93 rfl trivial ?_ rfl
  simp only [Try.ntmps93, List.size_toArray, List.length_cons, List.length_nil, Nat.reduceAdd, Nat.reduceSub, Array.replicate_succ, Array.replicate_zero, List.push_toArray, List.append_toArray, List.nil_append, List.cons_append]
  gi_wp2
  gi_loopw [3] (fun kv wr => ∃ k : Nat, kv = .int .i64 ((k : Int) - 1) ∧ k ≤ n ∧ J k wr) (fun kv _ => (intOf kv + 1).toNat)
  case atStart => exact ⟨n, by go_num, Nat.le_refl _, h0⟩
  case round =>
    clear h0 x0 xf xl
    obtain ⟨k, rfl, hk, hJk⟩ := hrel
    rcases k with _ | k
    · gi_wp2
      go_end0
      exact ⟨⟨_, rfl⟩, .inl hJk⟩
    · have e1 : (((k + 1 : Nat) : Int) - 1) = (k : Int) := by omega
      rw [e1]
      obtain ⟨hb, hr⟩ := hJ _ _ hJk
      obtain ⟨x0, xf, xl⟩ := hb.c1
      obtain ⟨x, hx⟩ : ∃ x, l.getD k (0, 0) = x := ⟨_, rfl⟩
      have hx2 : l[k]? = some x := by rw [← hx, List.getD_eq_getElem?_getD, List.getElem?_eq_getElem (by have := HN.out; omega)]; rfl
      obtain ⟨ab, off, rfl, ha1, ha2, hc⟩ := hr.at_ encO hx2 (by omega)
      have c0 := hc 0 _ rfl
      have c1 := hc 1 _ rfl
      rw [Nat.add_zero] at c0
      rw [← Nat.add_assoc] at c1
      have hkn : k < n := by omega
      obtain ⟨fn, tmps, assign, body, hy, hR⟩ := hY k wr hkn hJk
      rw [hx] at hy
      unfold opEnc at hy
      have hR2 : RoundIn Fence.wide (d - 1) Try.prog yb fn tmps assign body wr (fun e W' => ∃ bb, e = .returned (.bool bb) ∧ ((bb = true ∧ J k W') ∨ (bb = false ∧ Jx W'))) := hR.mono (fun e W' h => by
          rcases h with ⟨h1, h2⟩ | ⟨h1, h2⟩
          · exact ⟨true, h1, .inl ⟨rfl, h2⟩⟩
          · exact ⟨false, h1, .inr ⟨rfl, h2⟩⟩)
      clear hR hc hb hr hx hx2 e1
      gi_wp2
      refine hR2.mono ?_
      rintro e3 W3 ⟨bb, rfl, hbb⟩
      rcases hbb with ⟨rfl, hJ4⟩ | ⟨rfl, hx⟩
      · gi_wp2
        go_roundw
        case rel => exact ⟨k, by go_num, by omega, hJ4⟩
        case measure => simp [intOf]
      · gi_wp2
        refine bodyPost_ret (results_none (by kernel_rfl) _ _ _) rfl ?_
        exact ⟨⟨_, rfl⟩, .inr hx⟩
set_option maxRecDepth 100000 in
set_option maxHeartbeats 1000000 in
theorem BackC_ok {w : World} {A : Option Addr} {n c : Nat} :
    Calls Try.prog 98 #[.slice A n c] w fun r w' => r = .returned (.func (.func 107) #[] #[.pointer (some ⟨w.heap.size, 0, none⟩)]) ∧ Blk w' w.heap.size 24 #[.slice A n c] ∧ Below w.heap.size w w' := by
  go_enter Try.func98, Try.ntmps98
  go_wp2
  go_ret
  exact ⟨rfl, Blk.new w 24 _, (Below.refl _ w).alloc (Nat.le_refl _) _⟩

def clEnc (k : Nat) (x : Int) : Array Value := #[.int .i64 k, .int .u8 x]

set_option maxRecDepth 100000 in
set_option maxHeartbeats 2000000 in
theorem bwdC_ok {W1 : World} {bx yb n c B : Nat} {A : Option Addr} {l : List Int} (hn : n = l.length) (hm : n ≤ 4611686018427387904)
    {J : Nat → World → Prop} (h0 : J n W1) (hJ : ∀ k W, J k W → Blk W bx 24 #[.slice A n c] ∧ RdInts W B .u8 A l) {Jx : World → Prop} {d : Nat} (hd : 1 ≤ d)
    (hY : ∀ k W, k < n → J (k + 1) W → YieldAt Fence.wide (d - 1) Try.prog yb (clEnc k (l.getD k 0)) W fun e W' =>
      (e = .returned (.bool true) ∧ J k W') ∨ (e = .returned (.bool false) ∧ Jx W')) :
    CallsIn Fence.wide d Try.prog 107 #[.func (.yield yb) #[] #[], .pointer (some ⟨bx, 0, none⟩)] W1 fun e W' => (∃ v, e = .returned v) ∧ (J 0 W' ∨ Jx W') := by
  have HN := Lib.hid hn
  clear hn
  obtain ⟨x0, xf, xl⟩ := (hJ n W1 h0).1.c1
  refine callsIn_of_wp Try.func107 rfl trivial ?_ rfl
  simp only [Try.ntmps107, List.size_toArray, List.length_cons, List.length_nil, Nat.reduceAdd, Nat.reduceSub, Array.replicate_succ, Array.replicate_zero, List.push_toArray, List.append_toArray, List.nil_append, List.cons_append]
  gi_wp2
  gi_loopw [3] (fun kv wr => ∃ k : Nat, kv = .int .i64 ((k : Int) - 1) ∧ k ≤ n ∧ J k wr) (fun kv _ => (intOf kv + 1).toNat)
  case atStart => exact ⟨n, by go_num, Nat.le_refl _, h0⟩
  case round =>
    clear h0 x0 xf xl
    obtain ⟨k, rfl, hk, hJk⟩ := hrel
    rcases k with _ | k
    · gi_wp2
      go_end0
      exact ⟨⟨_, rfl⟩, .inl hJk⟩
    · have e1 : (((k + 1 : Nat) : Int) - 1) = (k : Int) := by omega
      rw [e1]
      obtain ⟨hb, hr⟩ := hJ _ _ hJk
      obtain ⟨x0, xf, xl⟩ := hb.c1
      obtain ⟨x, hx⟩ : ∃ x, l.getD k 0 = x := ⟨_, rfl⟩
      obtain ⟨ab, off, rfl, ha1, ha2, c0⟩ := hr.at_ (i := k) (by have := HN.out; omega)
      rw [hx] at c0
      have hkn : k < n := by omega
      obtain ⟨fn, tmps, assign, body, hy, hR⟩ := hY k wr hkn hJk
      rw [hx] at hy
      unfold clEnc at hy
      have hR2 : RoundIn Fence.wide (d - 1) Try.prog yb fn tmps assign body wr (fun e W' => ∃ bb, e = .returned (.bool bb) ∧ ((bb = true ∧ J k W') ∨ (bb = false ∧ Jx W'))) := hR.mono (fun e W' h => by
          rcases h with ⟨h1, h2⟩ | ⟨h1, h2⟩
          · exact ⟨true, h1, .inl ⟨rfl, h2⟩⟩
          · exact ⟨false, h1, .inr ⟨rfl, h2⟩⟩)
      clear hR hb hr hx e1
      gi_wp2
      refine hR2.mono ?_
      rintro e3 W3 ⟨bb, rfl, hbb⟩
      rcases hbb with ⟨rfl, hJ4⟩ | ⟨rfl, hx⟩
      · gi_wp2
        go_roundw
        case rel => exact ⟨k, by go_num, by omega, hJ4⟩
        case measure => simp [intOf]
      · gi_wp2
        refine bodyPost_ret (results_none (by kernel_rfl) _ _ _) rfl ?_
        exact ⟨⟨_, rfl⟩, .inr hx⟩
end Go.Proofs.Ytpdackbcnbhppaa
