/- swapRange of pairs walked. -/
import Derived.Test.YtpdackbcnbhppaaQ2
import Derived.WalkKit
import Derived.BigRegion
import Derived.IntWalk
namespace Go.Proofs.Ytpdackbcnbhppaa
open Go.RowKit
attribute [local go_sem] Oper.semAt_some

set_option maxRecDepth 100000 in
set_option maxHeartbeats 4000000 in
theorem swapRange_ok {w : World} {g n cap a b k : Nat} {D : List (Int × Int)} (hn : n = D.length) (hP : Prs w g D) (h1 : a + k ≤ b) (h2 : b + k ≤ n) (hm : n ≤ 4611686018427387904) (fv : Value) :
    Calls Try.prog 109 #[.slice (some ⟨g, 0, none⟩) n cap, .int .i64 a, .int .i64 b, .int .i64 k, fv] w fun r w' => r = .returned (.tuple #[]) ∧ Prs w' g (swpR D a b k) ∧ Frm (fun j => j = g) w w' := by
  have HN := Lib.hid hn
  clear hn
  go_enter Try.func109, Try.ntmps109
  go_wp2
  go_loopg [10] k (fun gk iv wr => ∃ i : Nat, i + gk = k ∧ iv = .int .i64 i ∧ Prs wr g (swpR D a b i) ∧ Frm (fun j => j = g) w wr)
  case atStart => exact ⟨0, by omega, rfl, hP, Frm.refl _ _⟩
  case round =>
    clear hP
    obtain ⟨i, hi, rfl, hP, F⟩ := hrel
    have HI := Lib.hid hi
    clear hi
    by_cases hlt : i < k
    · have hl : (swpR D a b i).length = n := by rw [swpR_length]; exact HN.out.symm
      obtain ⟨x0, x1⟩ := hP.cell (i := a + i) (by omega)
      obtain ⟨y0, y1⟩ := hP.cell (i := b + i) (by omega)
      have fr := hP.free
      have hg := hP.lt
      have HL := Lib.hid hl
      clear hl
      have v1 : IntKind.i64.wrap ((a : Int) + (i : Int)) = (a : Int) + (i : Int) := IntWalk.i64_in _ (by omega)
      have v2 : IntKind.i64.wrap ((b : Int) + (i : Int)) = (b : Int) + (i : Int) := IntWalk.i64_in _ (by omega)
      have v3 : (0 : Int) ≤ (a : Int) + (i : Int) := by omega
      have v4 : (0 : Int) ≤ (b : Int) + (i : Int) := by omega
      have v5 : (a : Int) + (i : Int) < (n : Int) := by omega
      have v6 : (b : Int) + (i : Int) < (n : Int) := by omega
      have v7 : ((a : Int) + (i : Int)).toNat = a + i := by omega
      have v8 : ((b : Int) + (i : Int)).toNat = b + i := by omega
      go_wp2
      go_region
      all_goals
        go_wp2
        go_roundg (k - (i + 1))
        case rel =>
          have P2 := ((hP.set (a + i) ((swpR D a b i).getD (b + i) (0, 0))).set (b + i) ((swpR D a b i).getD (a + i) (0, 0))).drew
          exact ⟨i + 1, by have := HI.out; omega, by go_num, P2, ((((F.set rfl _).set rfl _).set rfl _).set rfl _).drew⟩
        case measure => have := HI.out; omega
    · have e : i = k := by have := HI.out; omega
      subst e
      go_wp2
      go_end0
      exact ⟨rfl, hP, F⟩
end Go.Proofs.Ytpdackbcnbhppaa
