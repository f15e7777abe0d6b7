/- furrowlaw16.StackSteps returns true for every input: three stacks that play a script of steps, copies among them, tell at each step what the document tells. No condition. -/
import Derived.Test.YtfelcmppopibcaaRows
import Derived.WalkKit
import Derived.ProofKit
import Derived.Test.YtfelcmppopibcaaB9
import Derived.Test.YtfelcmppopibcaaA2
import Derived.Laws.IdiomArrays
import Derived.OpenShut
import Derived.ShutString
import Derived.ChangeOld
import Derived.Below
namespace Go.Proofs.Ytfelcmppopibcaa.stackSteps
open Go.ChangeShapes Go.WideShapes Go.ChangeAt Go.RowKit
open Go.ChangeMaps (open_string shut_string)
set_option linter.unusedVariables false

theorem own : ownKnob Try.prog.godebug = none := by kernel_rfl
theorem laidOut : laidOutB Try.prog = true := by kernel_rfl

set_option maxRecDepth 100000 in
set_option maxHeartbeats 1000000 in
theorem walk (b0 b1 b2 : Int) (A : Option Addr) (len cap : Nat) (w : World) (hc : len ≤ cap) (hs : StepsRd w w.heap.size A len) :
    Calls Try.prog 9 #[.agg #[.int .i8 b0, .int .i8 b1, .int .i8 b2], .slice A len cap] w fun e w' => e = .returned (.bool true) ∧ Below w.heap.size w w' :=
  steps_walk b0 b1 b2 hc hs

set_option maxRecDepth 100000 in
theorem lifted (os : Os) (started : os.Started) (H : Type) (enc : TypeId × Value → H) :
    ReturnsInHanded {} Try.checked os 9 .any (Rows.stackStepsSpec.pre6 enc Try.prog Try.f9 Rows.stackStepsRow.domain false) (Rows.stackStepsSpec.post enc Try.prog Try.f9 false true false false) := by
  refine returnsInHanded_of_change (C := Try.checked) own started (by kernel_rfl) Try.func9
    (ChangeSpec.witness6 (enc := enc) (C := Try.checked) false ⟨#[], #[.agg #[.int .i8 0, .int .i8 0, .int .i8 0], .slice none 0 0], []⟩ 8 (by kernel_rfl) (by kernel_rfl) (by kernel_rfl) (by kernel_rfl)) ?_
  intro W base args ds gs before hval0 hW hcnd _
  have hval : ∀ (j : Nat) t v, Try.f9.params[j]? = some t → args[j]? = some v → Value.okWide Try.prog W .any base t v := hval0
  have hW' := hW
  obtain ⟨p, q, hA0, hV, rfl, hfz, hnd⟩ := hW
  have hA : DataW.TrodAll enc Try.prog W 0 (fun _ => true) true Try.f9.params.toList args.toList ds p := hA0
  rw [Try.params9] at hA hval
  obtain ⟨v0, vs0, d0, ds0, p0, q0, hargs, rfl, rfl, h0, r0⟩ := trodAll_cons hA
  obtain ⟨v1, vs1, d1, ds1, p1, q1, rfl, rfl, rfl, h1, r1⟩ := trodAll_cons r0
  obtain ⟨rfl, rfl, rfl⟩ := trodAll_nil r1
  obtain rfl : args = #[v0, v1] := by cases args; simp_all
  obtain ⟨rfl, rfl⟩ := trodVars_none hV
  obtain ⟨cs, rfl, hsz, _⟩ : ∃ cs, v0 = .agg cs ∧ cs.size = Try.prog.cellsOf 54 ∧ Row.okWide Try.prog W .any base 54 cs := by
    have := hval 0 54 v0 rfl rfl
    simpa [Value.okWide, Try.underlying54] using this
  have k0 := h0
  have lt0 : ∀ x ∈ p0, x.block < W.heap.size := by obtain ⟨m, hm⟩ := k0; exact DataW.trod_lt m _ _ _ hm
  have k1 := h1
  have lt1 : ∀ x ∈ p1, x.block < W.heap.size := by obtain ⟨m, hm⟩ := k1; exact DataW.trod_lt m _ _ _ hm
  have c54 : Try.prog.cellsOf 54 = 3 := by kernel_rfl
  have c23 : Try.prog.cellsOf 23 = 1 := by kernel_rfl
  obtain ⟨b0, b1, b2, rfl⟩ : ∃ b0 b1 b2, cs = #[.int .i8 b0, .int .i8 b1, .int .i8 b2] := by
    rw [c54] at hsz
    obtain ⟨l⟩ := cs
    rcases l with _ | ⟨u0, _ | ⟨u1, _ | ⟨u2, _ | ⟨_, _⟩⟩⟩⟩ <;> simp at hsz
    obtain ⟨fuel, hf⟩ := h0
    obtain ⟨y0, y1, y2, n, _, g0, g1, g2⟩ := trod_array3 Try.underlying54 c23 hf
    obtain ⟨z0, e0, _⟩ := DataW.trod_int Try.underlying23 g0
    obtain ⟨z1, e1, _⟩ := DataW.trod_int Try.underlying23 g1
    obtain ⟨z2, e2, _⟩ := DataW.trod_int Try.underlying23 g2
    simp at e0 e1 e2
    subst e0 e1 e2
    exact ⟨z0, z1, z2, rfl⟩
  obtain ⟨A, len, cap, rfl⟩ := okWide_slice Try.underlying55 (hval 1 55 v1 rfl rfl)
  obtain ⟨hl, hs⟩ : len ≤ cap ∧ StepsRd W W.heap.size A len := by
    obtain ⟨fuel, hf⟩ := h1
    exact steps_of_trod (x := (d1, p1)) hf
  clear hA0 hval0
  refine (walk b0 b1 b2 A len cap W hl hs).mono fun e W' ⟨he, bel⟩ => ?_
  subst he
  exact ⟨_, rfl, _, _, _, [], _, [], hW', trodAll_mk1 (shut_bool Try.underlying4 _), (trodAll_cons_mk (Below.trod laidOut (by kernel_rfl) (of_decide_eq_true (by kernel_rfl)) k0 bel lt0) (trodAll_cons_mk (Below.trod laidOut (by kernel_rfl) (of_decide_eq_true (by kernel_rfl)) k1 bel lt1) trodAll_mk0)), rfl, bel.frame _, fun h => by cases h⟩

theorem over : Rows.stackStepsRow.holds Try.pinned (OpenSpec.ofChange Rows.stackStepsSpec) :=
  OpenClaim.holds_of_wide 9 Try.f9 rfl rfl rfl rfl rfl rfl rfl ⟨rfl, rfl, rfl, rfl, rfl⟩ rfl rfl rfl rfl rfl (by kernel_rfl) Try.func9 (by kernel_rfl)
    (of_decide_eq_true (by kernel_rfl)) (by unfold Func.isWrapper; first | (rw [if_pos (by decide +kernel)]; kernel_rfl) | (rw [if_neg (by decide +kernel)]; exact ⟨rfl, rfl⟩))
    (fun os started H enc _ => lifted os started H enc)

/-- The statement. -/
theorem proved : Rows.StackStepsSaid := over
#print axioms proved
end Go.Proofs.Ytfelcmppopibcaa.stackSteps
