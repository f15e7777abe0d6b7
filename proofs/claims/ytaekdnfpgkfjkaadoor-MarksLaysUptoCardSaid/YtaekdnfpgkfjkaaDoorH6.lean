/- What a drawn region's steps leave as it was: for go_region_held3. -/
import Derived.Test.YtaekdnfpgkfjkaaDoorKit3
import Derived.Test.YtaekdnfpgkfjkaaDoorRng3
namespace Go.Proofs.YtaekdnfpgkfjkaaDoor
open Go.RowKit

/-- What stood in w stands in w'. -/
def Aft (w w' : World) : Prop := Below w.heap.size w w'
theorem Aft.refl (w : World) : Aft w w := Below.refl _ _
theorem Aft.trans {a b c : World} (h : Aft a b) (k : Aft b c) : Aft a c := Below.trans h (Below.mono k h.size)
theorem Aft.drew {w w' : World} (h : Aft w w') : Aft w w'.drew := Below.drew h
theorem Aft.alloc {w w' : World} (h : Aft w w') (o : Obj) : Aft w (w'.alloc o) := Below.alloc h h.size o
theorem Aft.grown {a w w' : World} {row : Option Nat} (h : Aft a w) (hg : w.grownBy w' row) (hr : ∀ k, row = some k → a.heap.size ≤ k) : Aft a w' := Below.grown h hg h.size hr
theorem Aft.of_grown {w w' : World} (hg : w.grownBy w' none) : Aft w w' := (Aft.refl w).grown hg (fun _ e => by cases e)
theorem Blk.aft {w w' : World} {g : Nat} {t : TypeId} {cs : Array Value} (h : Blk w g t cs) (k : Aft w w') : Blk w' g t cs := h.below k h.lt
theorem Ints.aft {w w' : World} {B : Nat} {e : TypeId} {k : IntKind} {v : Value} {l : List Int} (h : Ints w B e k v l) (ha : Aft w w') : Ints w' B e k v l := h.below ha (Nat.le_refl _)
theorem RdInts.aft {w w' : World} {B : Nat} {k : IntKind} {A : Option Addr} {l : List Int} (h : RdInts w B k A l) (ha : Aft w w') : RdInts w' B k A l := h.below ha (.inr (Nat.le_refl _))

theorem Aft.le {a b : World} (h : Aft a b) : a.heap.size ≤ b.heap.size := h.size
theorem Aft.set {a w : World} {g j : Nat} (h : Aft a w) (hg : a.heap.size ≤ g) (u : Value) : Aft a (w.setCell ⟨g, j, none⟩ u) := Below.setCell h (p := ⟨g, j, none⟩) hg u

/-- A row of numbers and a block of another type are two blocks. -/
theorem Ints.ne_blk {w : World} {B g g' n c : Nat} {e t : TypeId} {k : IntKind} {l : List Int} {cs : Array Value} (h : Ints w B e k (.slice (some ⟨g, 0, none⟩) n c) l) (hb : Blk w g' t cs) (hne : e ≠ t) : g ≠ g' := by
  obtain ⟨rfl, _⟩ := h.at_
  obtain ⟨cur, _, h2, _⟩ := own_blk h
  intro e1
  subst e1
  rw [Blk] at h2 hb
  rw [hb] at h2
  injection h2 with h2
  injection h2 with _ h3
  exact hne h3.symm

/-- The same of a row's own block, whatever its value's form. -/
theorem Ints.own_ne {w : World} {B g' : Nat} {e t : TypeId} {k : IntKind} {v : Value} {l : List Int} {cs : Array Value} (h : Ints w B e k v l) (hb : Blk w g' t cs) (hne : e ≠ t) : some g' ≠ v.ownBlock := by
  rcases h.cases' with ⟨rfl, _⟩ | ⟨g, cap, rfl⟩
  · simp [Value.ownBlock]
  · simp only [Value.ownBlock]
    intro e
    injection e with e
    exact h.ne_blk hb hne e.symm

theorem Blk.grown_own {w w' : World} {B g' : Nat} {e t : TypeId} {k : IntKind} {v : Value} {l : List Int} {cs : Array Value} (h : Ints w B e k v l) (hb : Blk w g' t cs) (hne : e ≠ t) (hg : w.grownBy w' v.ownBlock) : Blk w' g' t cs :=
  hb.grown hg (h.own_ne hb hne)

/-- append of a slice of numbers, one step of a drawn region. -/
theorem step_appIs {P : Program} {ops : Array Oper} {o : Oper} {a : Act} {w : World} {K : Act → World → Prop} {Q : Exit → Act → World → Prop} {E : Prop} {t e : TypeId} {k : IntKind} {bytes : Nat} (T : ElemI P t e k bytes)
    (hg : o.guard = none) (s x : Operand) (hop : o.op = Op.call { callee := Callee.builtin Builtin.append, args := #[s, x], argTypes := #[t, t] })
    {base : Nat} {v : Value} {l : List Int} (hs : a.eval s = v) (hown : Ints w base e k v l) {B : Nat} {A : Option Addr} {m c : Nat} {l' : List Int} (hm : m = l'.length) (hx : a.eval x = .slice A m c) (hr : RdInts w B k A l')
    (h63 : l.length + l'.length ≤ maxLen) (hbytes : (l.length + l'.length) * bytes ≤ 140737488355328) (hbase : base ≤ w.heap.size)
    (hK : ∀ v' w', Ints w' base e k v' (l ++ l') → w.grownBy w' v.ownBlock → (v'.ownBlock = v.ownBlock ∨ v'.ownBlock = some w.heap.size) → K (a.put o.dst v') w') :
    if Region.wanted o (yielded ops a.tmps) = true then Oper.wp P o a w K Q else E := by
  have hw : Region.wanted o (yielded ops a.tmps) = true := by simp [Region.wanted, hg]
  rw [if_pos hw]
  subst hm
  refine wp_app T.t hop hs hown hx hr (ints_one _ _) h63 hbytes hbase fun v' w' h1 h2 h3 => hK v' w' ?_ h2 h3
  unfold Ints
  simpa using h1
end Go.Proofs.YtaekdnfpgkfjkaaDoor
