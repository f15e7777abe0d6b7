/- append of one number inside a fence. -/
import Derived.Test.YtaekdnfpgkfjkaaDoorKit2
import Derived.OwnWalkIn
namespace Go.Proofs.YtaekdnfpgkfjkaaDoor
open Go.RowKit
section
variable {F : Fence} {n : Nat} {P : Program} {t e : TypeId} {k : IntKind} {bytes : Nat} {w : World} {ops : Array Oper} {rest : List Oper} {o : Oper} {a : Act} {Q : Exit → Act → World → Prop}
theorem wpListIn_app {t e : TypeId} {size bytes : Nat} (T : ElemT P t e size bytes) {s x : Operand} (hgd : o.guard = none)
    (ho : o.op = .call { callee := .builtin .append, args := #[s, x], argTypes := #[t, t] }) {base : Nat} {v : Value} {m' : Nat} {xs : List Value} (hs : a.eval s = v) (hown : w.ownsRow base e size v m' xs)
    {B : Nat} {A : Option Addr} {m c : Nat} {news : List Value} (hx : a.eval x = .slice A m c) (hr : Reads w B size A m news) (h1 : ∀ u ∈ news, u.oneCell' = true)
    (h63 : m' + m ≤ maxLen) (hbytes : (m' + m) * bytes ≤ 140737488355328) (hbase : base ≤ w.heap.size)
    (h : ∀ v' w', w'.ownsRow base e size v' (m' + m) (xs ++ news) → w.grownBy w' v.ownBlock → (v'.ownBlock = v.ownBlock ∨ v'.ownBlock = some w.heap.size) → wpListIn F n P ops Q rest (a.put o.dst v') w') : wpListIn F n P ops Q (o :: rest) a w := by
  refine wpListIn_plain hgd fun K hK' => ?_
  obtain ⟨v', w', hrun, r1, r2, r3⟩ := run_app T (w := w) (c := c) o.type hown hr h1 h63 hbytes hbase
  unfold Oper.wpIn
  refine ⟨?_, ?_⟩
  · simp [Oper.about, ho, resolve, Target.leads, Sem.run_pure]
  · rw [Oper.semAt_plain F _ _ (by rw [ho]; intro c hc'; cases hc')]
    simp [execOp, ho, resolve, invoke, builtin, hs, hx, hrun, Result.andThen]
    exact hK' _ _ (h v' w' r1 r2 r3)
theorem wpListIn_appI (T : ElemI P t e k bytes) {s x : Operand} (hgd : o.guard = none)
    (ho : o.op = .call { callee := .builtin .append, args := #[s, x], argTypes := #[t, t] }) {base : Nat} {v : Value} {l : List Int} (hs : a.eval s = v) (hown : Ints w base e k v l)
    {q : Nat} {y : Int} (hx : a.eval x = .slice (some ⟨q, 0, none⟩) 1 1) (hk : Blk w q e #[.int k y])
    (h63 : l.length + 1 ≤ maxLen) (hbytes : (l.length + 1) * bytes ≤ 140737488355328) (hbase : base ≤ w.heap.size)
    (h : ∀ g cap w', Ints w' base e k (.slice (some ⟨g, 0, none⟩) (l.length + 1) cap) (l ++ [y]) → w.grownBy w' v.ownBlock → (v.ownBlock = some g ∨ g = w.heap.size) →
      wpListIn F n P ops Q rest (a.put o.dst (.slice (some ⟨g, 0, none⟩) (l.length + 1) cap)) w') : wpListIn F n P ops Q (o :: rest) a w := by
  refine wpListIn_app T.t hgd ho hs hown hx (Reads.blk hk (by simp)) (by simp [Value.oneCell']) h63 hbytes hbase fun v' w' h2 h3 h4 => ?_
  obtain ⟨g, cap, rfl, _, _⟩ := h2.form (by omega)
  refine h g cap w' ?_ h3 ?_
  · unfold Ints
    simpa using h2
  · rcases h4 with h4 | h4
    · exact .inl h4.symm
    · right; simpa [Value.ownBlock] using h4
end
end Go.Proofs.YtaekdnfpgkfjkaaDoor
