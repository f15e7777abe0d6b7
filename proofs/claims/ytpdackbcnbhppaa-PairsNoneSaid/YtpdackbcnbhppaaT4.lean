/- A sequence of some runs: the plain word; what the program makes of runs. -/
import Derived.Test.YtpdackbcnbhppaaT3
import Derived.Deep.RegionLaw
namespace Go.Proofs.Ytpdackbcnbhppaa
open Go.RowKit

/-- The kept places of k from f on. -/
def rangeP (cl : List Int) (f : Nat) : Nat → List Int
  | 0 => []
  | k + 1 => if remC (cl.getD (f + k) 0) = true then rangeP cl f k else rangeP cl f k ++ [((f + k : Nat) : Int)]
theorem rangeP_length (cl : List Int) (f : Nat) : ∀ k, (rangeP cl f k).length ≤ k
  | 0 => by simp [rangeP]
  | k + 1 => by
    have := rangeP_length cl f k
    unfold rangeP
    split <;> simp <;> omega
def runP (cl : List Int) (r : Rn) : List Int := rangeP cl r.f (r.t - r.f)
def seqT (cl : List Int) (rs : List Rn) (i : Nat) : List Int := (rs.take i).flatMap (runP cl)
def totT (rs : List Rn) (i : Nat) : Nat := ((rs.take i).map (fun r => r.t - r.f)).sum
def seqP (cl : List Int) (rs : List Rn) : List Int := rs.flatMap (runP cl)
def clsP (nw ps : List Int) : List Int := ps.map (fun a => clsC (lvAt nw a))
theorem clsP_length (nw ps : List Int) : (clsP nw ps).length = ps.length := by simp [clsP]
theorem clsP_snoc (nw ps : List Int) (a : Int) : clsP nw (ps ++ [a]) = clsP nw ps ++ [clsC (lvAt nw a)] := by simp [clsP]

theorem flat_length (cl : List Int) : ∀ rs : List Rn, (rs.flatMap (runP cl)).length ≤ (rs.map (fun r => r.t - r.f)).sum
  | [] => by simp
  | r :: rs => by
    have h1 := flat_length cl rs
    have h2 : (runP cl r).length ≤ r.t - r.f := rangeP_length cl r.f (r.t - r.f)
    rw [List.flatMap_cons, List.length_append, List.map_cons, List.sum_cons]
    omega
theorem seqT_length (cl : List Int) (rs : List Rn) (i : Nat) : (seqT cl rs i).length ≤ totT rs i := flat_length cl _
theorem sum_take_le : ∀ (l : List Nat) (i : Nat), (l.take i).sum ≤ l.sum
  | [], i => by simp
  | a :: l, 0 => by simp
  | a :: l, i + 1 => by have := sum_take_le l i; simp; omega
theorem totT_le (rs : List Rn) (i : Nat) : totT rs i ≤ totT rs rs.length := by
  unfold totT
  rw [List.take_length, List.map_take]
  exact sum_take_le _ _
theorem totT_succ {rs : List Rn} {i : Nat} (h : i < rs.length) : totT rs (i + 1) = totT rs i + (rs[i].t - rs[i].f) := by
  unfold totT
  rw [List.take_succ_eq_append_getElem h, List.map_append, List.sum_append]
  rfl
theorem seqT_succ {rs : List Rn} {i : Nat} (cl : List Int) (h : i < rs.length) : seqT cl rs (i + 1) = seqT cl rs i ++ runP cl rs[i] := by
  unfold seqT
  rw [List.take_succ_eq_append_getElem h, List.flatMap_append, List.flatMap_singleton]

structure Sq where
  pl : List Int
  cs : List Int
  lv : Int
  so : Int
  eo : Int
deriving Inhabited
def Sq.is (s : Sq) (pv cv : Value) : Array Value := #[pv, cv, .int .i8 s.lv, .int .u8 s.so, .int .u8 s.eo]
def behindL (x : Txt) (last : Int) : Int := if (begI (lvAt x.cl last) && (lvAt x.mt last == (x.cl.length : Int))) = true then x.base else lvK x (lvAt x.ix last + 1)
def sqOf (x : Txt) (ps : List Int) (l0 : Int) : Sq :=
  ⟨ps, clsP x.nw ps, l0, wayL (max l0 (lvK x (lvAt x.ix (ps.getD 0 0) - 1))), wayL (max l0 (behindL x (ps.getD (ps.length - 1) 0)))⟩
def seqOf (x : Txt) (rs : List Rn) : Sq := sqOf x (seqP x.cl rs) (rs.getD 0 default).v

theorem rn_cells : ∀ (rs : List Rn) (i j : Nat), i < rs.length → j < 3 → (rs.flatMap Rn.cells)[i * 3 + j]? = ((rs.getD i default).cells)[j]?
  | [], i, j, h, _ => by simp at h
  | r :: rs, 0, j, _, hj => by
    have : (r :: rs).flatMap Rn.cells = r.cells ++ rs.flatMap Rn.cells := by simp
    rw [this, List.getElem?_append_left (by simp [Rn.cells]; omega)]
    simp
  | r :: rs, i + 1, j, h, hj => by
    have e : (r :: rs).flatMap Rn.cells = r.cells ++ rs.flatMap Rn.cells := by simp
    rw [e, List.getElem?_append_right (by simp [Rn.cells]; omega)]
    have := rn_cells rs i j (by simpa using h) hj
    simp only [Rn.cells, List.length_cons, List.length_nil] at this ⊢
    rw [show (i + 1) * 3 + j - (0 + 1 + 1 + 1) = i * 3 + j by omega]
    simpa using this
theorem rn_length : ∀ rs : List Rn, (rs.flatMap Rn.cells).length = rs.length * 3
  | [] => by simp
  | r :: rs => by have := rn_length rs; simp [Rn.cells] at *; omega

def RdRuns (w : World) (B : Nat) (A : Option Addr) (rs : List Rn) : Prop := Reads w B 3 A rs.length (rs.flatMap Rn.cells)
theorem RdRuns.at_ {w : World} {B : Nat} {A : Option Addr} {rs : List Rn} (h : RdRuns w B A rs) {i : Nat} (hi : i < rs.length) :
    ∃ b off, A = some ⟨b, off, none⟩ ∧ b < B ∧ b < w.heap.size ∧ w.cell? ⟨b, off + i * 3, none⟩ = some (.int .i64 (rs.getD i default).f) ∧ w.cell? ⟨b, off + i * 3 + 1, none⟩ = some (.int .i64 (rs.getD i default).t) ∧
      w.cell? ⟨b, off + i * 3 + 2, none⟩ = some (.int .i8 (rs.getD i default).v) := by
  obtain ⟨b, off, hA, hb, hs, hc⟩ := h.2 (by omega)
  exact ⟨b, off, hA, hb, hs, hc (i * 3) _ (rn_cells rs i 0 hi (by omega)), hc (i * 3 + 1) _ (rn_cells rs i 1 hi (by omega)), hc (i * 3 + 2) _ (rn_cells rs i 2 hi (by omega))⟩
theorem RdRuns.below {w w' : World} {B C : Nat} {A : Option Addr} {rs : List Rn} (h : RdRuns w B A rs) (hb : Below C w w') (hC : B ≤ C ∨ w.heap.size ≤ C) : RdRuns w' B A rs := Reads.below h hb hC

theorem step_appI {P : Program} {ops : Array Oper} {o : Oper} {a : Act} {w : World} {K : Act → World → Prop} {Q : Exit → Act → World → Prop} {E : Prop} {t e : TypeId} {k : IntKind} {bytes : Nat} (T : ElemI P t e k bytes)
    (hg : o.guard = none) (s x : Operand) (hop : o.op = Op.call { callee := Callee.builtin Builtin.append, args := #[s, x], argTypes := #[t, t] })
    {base : Nat} {v : Value} {l : List Int} (hs : a.eval s = v) (hown : Ints w base e k v l) {q : Nat} {y : Int} (hx : a.eval x = .slice (some ⟨q, 0, none⟩) 1 1) (hk : Blk w q e #[.int k y])
    (h63 : l.length + 1 ≤ maxLen) (hbytes : (l.length + 1) * bytes ≤ 140737488355328) (hbase : base ≤ w.heap.size)
    (hK : ∀ g cap w', Ints w' base e k (.slice (some ⟨g, 0, none⟩) (l.length + 1) cap) (l ++ [y]) → w.grownBy w' v.ownBlock → (v.ownBlock = some g ∨ g = w.heap.size) →
      K (a.put o.dst (.slice (some ⟨g, 0, none⟩) (l.length + 1) cap)) w') :
    if Region.wanted o (yielded ops a.tmps) = true then Oper.wp P o a w K Q else E := by
  have hw : Region.wanted o (yielded ops a.tmps) = true := by simp [Region.wanted, hg]
  rw [if_pos hw]
  obtain ⟨v', w', hrun, r1, r2, r3⟩ := run_app T.t (w := w) (c := 1) o.type hown (Reads.blk hk (by simp)) (by simp [Value.oneCell']) h63 hbytes hbase
  obtain ⟨g, cap, rfl, _, _⟩ := r1.form (by omega)
  unfold Oper.wp
  simp [execOp, hop, resolve, invoke, builtin, hs, hx, hrun, Result.andThen]
  refine hK g cap w' (by unfold Ints; simpa using r1) r2 ?_
  rcases r3 with r3 | r3
  · exact .inl r3.symm
  · right; simpa [Value.ownBlock] using r3
end Go.Proofs.Ytpdackbcnbhppaa
