/- Two piles, any calls: every answer is the document's. -/
import Derived.Test.YtpdackbcnbhppaaRows
import Derived.WalkKit
import Derived.ProofKit
import Derived.Test.YtpdackbcnbhppaaZ8
import Derived.Test.YtpdackbcnbhppaaA2
import Derived.OpenShut
import Derived.ShutString
import Derived.ChangeOld
import Derived.Below
import Derived.SizedLaws
namespace Go.Proofs.Ytpdackbcnbhppaa.pairsPiles
open Go.ChangeShapes Go.WideShapes Go.ChangeAt Go.RowKit
set_option linter.unusedVariables false

set_option maxRecDepth 100000 in
theorem open_step {H : Type} {enc : TypeId × Value → H} {W : World} {fuel : Nat} {cs : List Value} {x : DataW H × List MemPlace} (h : DataW.trod enc Try.prog W 0 (fun _ => true) true fuel 89 cs = some x) : ∃ c : Stp, cs = stC c := by
  obtain ⟨xs, n, _, hx, hlen, hl, hg⟩ := DataW.trod_struct Try.underlying89 h
  have h4 : cs.length = 4 := hlen.trans (by kernel_rfl)
  match cs, h4, xs, hl with
  | [c0, c1, c2, c3], _, [y0, y1, y2, y3], _ =>
    obtain ⟨z0, e0, _⟩ := DataW.trod_int Try.underlying3 (trod_fld hg 0 rfl rfl rfl (o := 0) (k := 1) (by kernel_rfl))
    obtain ⟨z1, e1, _⟩ := DataW.trod_bool Try.underlying4 (trod_fld hg 1 rfl rfl rfl (o := 1) (k := 1) (by kernel_rfl))
    obtain ⟨z2, e2, _⟩ := DataW.trod_int Try.underlying3 (trod_fld hg 2 rfl rfl rfl (o := 2) (k := 1) (by kernel_rfl))
    obtain ⟨z3, e3, _⟩ := DataW.trod_int Try.underlying21 (trod_fld hg 3 rfl rfl rfl (o := 3) (k := 1) (by kernel_rfl))
    simp only [List.drop_zero, List.drop_succ_cons, List.take_succ_cons, List.take_zero, List.cons.injEq, and_true] at e0 e1 e2 e3
    subst e0 e1 e2 e3
    exact ⟨⟨z0, z1, z2, z3⟩, rfl⟩
theorem open_steps {H : Type} {enc : TypeId × Value → H} {W : World} {fuel : Nat} {v : Value} {x : DataW H × List MemPlace} (h : DataW.trod enc Try.prog W 0 (fun _ => true) true fuel 80 [v] = some x) :
    ∃ A n c L, v = .slice A n c ∧ n = L.length ∧ RdR stC 4 W W.heap.size A L := by
  rcases Go.Deep.open_slice Try.underlying80 h with ⟨hcs, _⟩ | ⟨a, len, cap, m, n, D, Pl, hcs, _, hl, hm, hmm, hx, hcell⟩
  · simp only [List.cons.injEq, and_true] at hcs
    subst hcs
    exact ⟨none, 0, 0, [], rfl, rfl, Reads.none_⟩
  · simp only [List.cons.injEq, and_true] at hcs
    subst hcs
    simp only [if_true] at hmm
    subst hmm
    have hC : Try.prog.cellsOf 89 = 4 := by kernel_rfl
    have hch : ∀ i, ∃ c : Stp, i < m → W.cells? 0 (a.add (i * 4)) 4 = some (stC c) := by
      intro i
      by_cases hi : i < m
      · obtain ⟨cs', h1, h2⟩ := hcell i hi
        obtain ⟨c, rfl⟩ := open_step h2
        rw [hC] at h1
        exact ⟨c, fun _ => h1⟩
      · exact ⟨⟨0, false, 0, 0⟩, fun h => absurd h hi⟩
    obtain ⟨X, hX⟩ := Classical.axiomOfChoice hch
    refine ⟨some a, len, m, (List.range len).map X, rfl, by simp, rd_of_recs encS (by omega) (fun i x hx => ?_)⟩
    rw [List.getElem?_map] at hx
    obtain ⟨j, hj, rfl⟩ := Option.map_eq_some_iff.1 hx
    obtain ⟨hj1, hj2⟩ := List.getElem?_eq_some_iff.1 hj
    rw [List.getElem_range] at hj2
    subst hj2
    simp only [List.length_range] at hj1
    exact hX i (by omega)

theorem own : ownKnob Try.prog.godebug = none := by kernel_rfl
theorem laidOut : laidOutB Try.prog = true := by kernel_rfl

set_option maxRecDepth 100000 in
theorem lifted (os : Os) (started : os.Started) (H : Type) (enc : TypeId × Value → H) :
    ReturnsInHanded {} Try.checked os 14 .any (Rows.pairsPilesSpec.pre6 enc Try.prog Try.f14 Rows.pairsPilesRow.domain false) (Rows.pairsPilesSpec.post enc Try.prog Try.f14 false true false false) := by
  refine returnsInHanded_of_change_sized (C := Try.checked) own started (by kernel_rfl) Try.func14
    (ChangeSpec.witness6 (enc := enc) (C := Try.checked) false ⟨#[], #[.slice none 0 0], []⟩ 14 (by kernel_rfl) (by kernel_rfl) (by kernel_rfl) (by kernel_rfl)) ?_
  intro W base args ds gs before hval0 hW hcnd hsz0 _
  have hsz : (DataW.weightsEach Try.prog (Try.f14.params.toList ++ Rows.pairsPilesSpec.plain.varTypes Try.prog) (ds ++ gs)).all (· ≤ reachBytes) = true := hsz0
  clear hsz0
  have hval : ∀ (j : Nat) t v, Try.f14.params[j]? = some t → args[j]? = some v → Value.okWide Try.prog W .any base t v := hval0
  have hW' := hW
  obtain ⟨p, q, hA0, hV, rfl, hfz, hnd⟩ := hW
  have hA : DataW.TrodAll enc Try.prog W 0 (fun _ => true) true Try.f14.params.toList args.toList ds p := hA0
  rw [Try.params14] at hA hval hsz
  obtain ⟨v0, vs0, d0, ds0, p0, q0, hargs, rfl, rfl, h0, r0⟩ := trodAll_cons hA
  obtain ⟨rfl, rfl, rfl⟩ := trodAll_nil r0
  obtain rfl : args = #[v0] := by cases args; simp_all
  obtain ⟨rfl, rfl⟩ := trodVars_none hV
  have k0 := h0
  have lt0 : ∀ x ∈ p0, x.block < W.heap.size := by obtain ⟨m, hm⟩ := k0; exact DataW.trod_lt m _ _ _ hm
  have wt : ∀ n, n ∈ d0.weights Try.prog 80 → n ≤ reachBytes := by
    intro n hn
    have := List.all_eq_true.1 hsz n (by simp [DataW.weightsEach, hn])
    simpa using this
  obtain ⟨fuel, hfu⟩ := h0
  obtain ⟨a0, len0, cap0, rfl⟩ := okWide_slice Try.underlying80 (hval 0 80 v0 rfl rfl)
  obtain ⟨A, n, c, L, hv, hn, HX⟩ := open_steps (W := W) (fuel := fuel) (v := .slice a0 len0 cap0) hfu
  obtain ⟨rfl, rfl, rfl⟩ : a0 = A ∧ len0 = n ∧ cap0 = c := by simpa using hv
  clear hv
  clear hA0 hval0
  refine (piles_walk hn HX).mono fun e W' ⟨he, bel⟩ => ?_
  subst he
  exact ⟨_, rfl, _, _, _, [], _, [], hW', trodAll_mk1 (shut_bool Try.underlying4 _), trodAll_cons_mk (Below.trod laidOut (by kernel_rfl) (of_decide_eq_true (by kernel_rfl)) k0 bel lt0) trodAll_mk0, rfl, bel.frame _, fun h => by cases h⟩

theorem over : Rows.pairsPilesRow.holds Try.pinned (OpenSpec.ofChange Rows.pairsPilesSpec) :=
  OpenClaim.holds_of_wide 14 Try.f14 rfl rfl rfl rfl rfl rfl rfl ⟨rfl, rfl, rfl, rfl, rfl⟩ rfl rfl rfl rfl rfl (by kernel_rfl) Try.func14 (by kernel_rfl)
    (of_decide_eq_true (by kernel_rfl)) (by unfold Func.isWrapper; first | (rw [if_pos (by decide +kernel)]; kernel_rfl) | (rw [if_neg (by decide +kernel)]; exact ⟨rfl, rfl⟩))
    (fun os started H enc _ => lifted os started H enc)

/-- The statement. -/
theorem proved : Rows.PairsPilesSaid := over
#print axioms proved
end Go.Proofs.Ytpdackbcnbhppaa.pairsPiles
