/- utf's small functions: need, why. -/
import Derived.Test.YtaekdnfpgkfjkaaDoorC1
import Derived.Test.YtaekdnfpgkfjkaaDoorH6
import Derived.Test.YtaekdnfpgkfjkaaDoorShelf
import Derived.WalkSpells
import Derived.BigQuiet
import Derived.Deep.QuietTactic
namespace Go.Proofs.YtaekdnfpgkfjkaaDoor
open Go.RowKit
attribute [local go_sem] Oper.semAt_some

def needN (b : Int) : Nat := if b < 128 then 1 else if b < 192 then 0 else if b < 224 then 2 else if b < 240 then 3 else if b < 248 then 4 else 0
theorem needN_le (b : Int) : needN b ≤ 4 := by unfold needN; (repeat' split) <;> omega

set_option maxRecDepth 100000 in
set_option maxHeartbeats 1000000 in
theorem need_ok (w : World) (b : Int) : Calls Tryd.prog 75 #[.int .u8 b] w fun r w' => r = .returned (.int .i64 (needN b)) ∧ w = w' := by
  go_enter Tryd.func75, Tryd.ntmps75
  go_wp2
  all_goals (go_ret; refine ⟨congrArg (fun z => Ending.returned (Value.int .i64 z)) ?_, rfl⟩; unfold needN; (repeat' split) <;> omega)

set_option maxRecDepth 100000 in
set_option maxHeartbeats 1000000 in
theorem why_ok (w : World) (s : ByteArray) (h : 0 < s.size) : Calls Tryd.prog 73 #[.string s] w fun r w' => (∃ e, r = .returned (.int .i64 e)) ∧ Aft w w' := by
  obtain ⟨b0, hb0⟩ : ∃ b0 : UInt8, s.get! 0 = b0 := ⟨_, rfl⟩
  have hg0 : s[0]'h = b0 := by rw [← hb0]; exact (Utf8W.get!_of_lt s 0 h).symm
  have hz0 : (0 : Int) < (s.size : Int) := by omega
  have hn4 := needN_le (b0.toNat : Int)
  have hneed := fun (W : World) => need_ok W (b0.toNat : Int)
  generalize needN (b0.toNat : Int) = n at *
  clear hb0
  go_enter Tryd.func73, Tryd.ntmps73
  by_cases hn : n < 2
  · go_wp2_with (first | (go_at_call 75; refine (hneed _).mono ?_; rintro r1 w1 ⟨rfl, rfl⟩))
    go_ret
    exact ⟨⟨_, rfl⟩, Aft.refl _⟩
  · go_wp2_with (first | (go_at_call 75; refine (hneed _).mono ?_; rintro r1 w1 ⟨rfl, rfl⟩))
    have hn0 : 0 ≤ (n : Int) := by omega
    go_quiet (fail)
    have a0 : Aft w (w.drewN nq) := ⟨rfl, rfl, rfl, Nat.le_refl _, fun _ _ => rfl⟩
    go_wp2
    go_loopg [4, 5] n (fun gk xv iv wr => ∃ (i : Nat) (x : Int), i + gk = n + 1 ∧ iv = .int .i64 i ∧ xv = .int .i64 x ∧ 1 ≤ i ∧ i ≤ n ∧ Aft w wr)
    case atStart => exact ⟨1, _, by omega, rfl, rfl, by omega, by omega, a0⟩
    case round =>
      obtain ⟨i, x, hi, rfl, rfl, hi1, hin, a1⟩ := hrel
      have HI := Lib.hid hi
      clear hi a0
      by_cases hlt : i < n
      · by_cases hs : i < s.size
        · obtain ⟨y, hy⟩ : ∃ y : UInt8, s[i]'hs = y := ⟨_, rfl⟩
          go_wp2
          · go_ret
            exact ⟨⟨_, rfl⟩, a1⟩
          · go_roundg (n - i)
            case rel => exact ⟨i + 1, _, by have := HI.out; omega, by go_num, rfl, by omega, by omega, a1⟩
            case measure => have := HI.out; omega
        · have hs2 : (s.size : Int) ≤ (i : Int) := by omega
          go_wp2
          go_ret
          exact ⟨⟨_, rfl⟩, a1⟩
      · have hie : i = n := by omega
        subst hie
        obtain ⟨z0, z1, z2, z3, z4, zf, zl⟩ := (Blk.new wr 3 #[.int .i64 0, .int .i64 0, .int .i64 128, .int .i64 2048, .int .i64 65536]).c5
        have hc : i = 2 ∨ i = 3 ∨ i = 4 := by omega
        rcases hc with rfl | rfl | rfl
        all_goals
          go_wp2
          all_goals (go_ret; exact ⟨⟨_, rfl⟩, a1.alloc _⟩)
end Go.Proofs.YtaekdnfpgkfjkaaDoor
