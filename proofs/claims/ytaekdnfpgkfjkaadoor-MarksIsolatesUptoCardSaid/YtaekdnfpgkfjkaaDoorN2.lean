/- The reference's row of what is open: laws. -/
import Derived.Test.YtaekdnfpgkfjkaaDoorN1
namespace Go.Proofs.YtaekdnfpgkfjkaaDoor
open Go.RowKit
attribute [local go_sem] Oper.semAt_some

theorem etB : ElemT Tryd.prog 107 4 1 1 := ElemT.mk' (.bool false) Tryd.underlying107 (by kernel_rfl) rfl (by omega)
def OwB (w : World) (B : Nat) (v : Value) (L : List Int) : Prop := w.ownsRow B 4 1 v L.length (bvL L)
theorem bvL_app (L : List Int) (x : Int) : bvL (L ++ [x]) = bvL L ++ [.bool (x == 8297)] := by simp [bvL]
section
variable {w w' : World} {B : Nat} {v : Value} {L : List Int}
theorem OwB.nil (w : World) (B : Nat) : OwB w B (.slice none 0 0) [] := World.ownsRow_nil _ _ _ _
theorem OwB.lt (h : OwB w B v L) : ∀ j, v.ownBlock = some j → B ≤ j ∧ j < w.heap.size := World.ownsRow.lt h
theorem OwB.below {C : Nat} (h : OwB w B v L) (hb : Below C w w') (hC : w.heap.size ≤ C) : OwB w' B v L := own_frm h (Frm.of_below (F := fun _ => False) (hb.mono hC)) (fun _ _ h => h)
theorem OwB.aft (h : OwB w B v L) (hb : Aft w w') : OwB w' B v L := h.below hb (Nat.le_refl _)
theorem OwB.alloc (h : OwB w B v L) (o : Obj) : OwB (w.alloc o) B v L := World.ownsRow.alloc h o
theorem OwB.val (h : OwB w B v L) : ∃ A cap, v = .slice A L.length cap ∧ L.length ≤ cap ∧ cap ≤ maxLen ∧ Reads w w.heap.size 1 A L.length (bvL L) ∧ ∀ b o, A = some ⟨b, o, none⟩ → o = 0 := by
  have h1 := h
  rcases h.2 with ⟨rfl, h0⟩ | ⟨g, cap, cur, rfl, _, _, h3, h4, _⟩
  · have : L = [] := List.eq_nil_of_length_eq_zero h0
    subst this
    exact ⟨none, 0, rfl, by simp, by simp, Reads.none_, fun b o e => by cases e⟩
  · exact ⟨_, cap, rfl, h3, h4, Reads.of_own h1, fun b o e => by injection e with e; injection e with _ e2; exact e2.symm⟩
theorem OwB.cut0 {A : Option Addr} {n cap : Nat} (h : OwB w B (.slice A n cap) L) (j : Nat) (hj : j ≤ L.length) : OwB w B (.slice A j cap) (L.take j) := by
  have hl : (L.take j).length = j := by rw [List.length_take]; omega
  rcases h.2 with ⟨h0, h1⟩ | ⟨g, cap', cur, hv, k1, k2, k3, k4, k5, k6⟩
  · have hL : L = [] := List.eq_nil_of_length_eq_zero h1
    subst hL
    have : j = 0 := by simpa using hj
    subst this
    injection h0 with e1 _ e3
    subst e1 e3
    exact OwB.nil w B
  injection hv with hv1 _ hv3
  subst hv1 hv3
  unfold OwB
  rw [hl]
  refine ⟨by simp [bvL]; omega, .inr ⟨g, cap, cur, rfl, k1, k2, by omega, k4, k5, ?_⟩⟩
  have : bvL (L.take j) = (bvL L).take j := by unfold bvL; rw [List.map_take]
  rw [this, ← k6, List.take_take, Nat.mul_one, Nat.mul_one, Nat.min_eq_left hj]
theorem OwB.drew (h : OwB w B v L) : OwB w.drew B v L := h
end
section
variable {P : Program} {w : World} {ops : Array Oper} {rest : List Oper} {o : Oper} {a : Act} {Q : Exit → Act → World → Prop}
theorem wpList_appB {t : TypeId} (T : ElemT P t 4 1 1) {s x : Operand} (hgd : o.guard = none)
    (ho : o.op = .call { callee := .builtin .append, args := #[s, x], argTypes := #[t, t] }) {base : Nat} {v : Value} {L : List Int} (hs : a.eval s = v) (hown : OwB w base v L)
    {q : Nat} (y : Int) {b : Bool} (hy : (y == 8297) = b) (hx : a.eval x = .slice (some ⟨q, 0, none⟩) 1 1) (hk : Blk w q 4 #[.bool b])
    (h63 : L.length + 1 ≤ maxLen) (hbytes : (L.length + 1) * 1 ≤ 140737488355328) (hbase : base ≤ w.heap.size)
    (h : ∀ g cap w', OwB w' base (.slice (some ⟨g, 0, none⟩) (L.length + 1) cap) (L ++ [y]) → w.grownBy w' v.ownBlock → (v.ownBlock = some g ∨ g = w.heap.size) →
      wpList P ops Q rest (a.put o.dst (.slice (some ⟨g, 0, none⟩) (L.length + 1) cap)) w') : wpList P ops Q (o :: rest) a w := by
  refine wpList_app1 T hgd ho hs hown hx hk rfl (by simp [Value.oneCell']) h63 hbytes hbase fun g cap w' h1 h2 h3 => h g cap w' ?_ h2 h3
  unfold OwB
  rw [bvL_app, hy]
  simpa using h1
end
end Go.Proofs.YtaekdnfpgkfjkaaDoor
