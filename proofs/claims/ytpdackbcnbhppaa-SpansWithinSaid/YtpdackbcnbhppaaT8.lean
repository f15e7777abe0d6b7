/- Sequences, whatever comes in. -/
import Derived.Test.YtpdackbcnbhppaaT7
namespace Go.Proofs.Ytpdackbcnbhppaa
open Go.RowKit
attribute [local go_sem] Oper.semAt_some

set_option maxRecDepth 100000 in
set_option maxHeartbeats 1000000 in
theorem Sequences_arg {w : World} {n0 n1 n2 c0 c1 c2 : Nat} {A0 A1 A2 : Option Addr} (base : Int) (h : n1 ≠ n0 ∨ n2 ≠ n0 ∨ (base ≠ 0 ∧ base ≠ 1)) :
    Calls Try.prog 16 #[.slice A0 n0 c0, .slice A1 n1 c1, .slice A2 n2 c2, .int .i8 base] w fun r w' => r = .returned (.tuple #[.slice none 0 0, .int .i64 2]) ∧ w = w' := by
  by_cases h1 : n1 = n0
  · subst h1
    have hE : ((n1 : Int) != (n1 : Int)) = false := bne_self_eq_false _
    by_cases h2 : n2 = n1
    · subst h2
      have h3 : base ≠ 0 ∧ base ≠ 1 := by omega
      have b0 : (base != 0) = true := bne_iff_ne.2 h3.1
      have b1 : (base != 1) = true := bne_iff_ne.2 h3.2
      clear h
      go_enter Try.func16, Try.ntmps16
      go_wp2
      go_step3
      go_wp2
      rw [Exit.noGoto_ret]
      go_ret2
      exact ⟨rfl, rfl⟩
    · have b2 : ((n2 : Int) != (n1 : Int)) = true := bne_iff_ne.2 (by omega)
      clear h
      go_enter Try.func16, Try.ntmps16
      go_wp2
      go_step3
      go_wp2
      rw [Exit.noGoto_ret]
      go_ret2
      exact ⟨rfl, rfl⟩
  · have b1 : ((n1 : Int) != (n0 : Int)) = true := bne_iff_ne.2 (by omega)
    clear h
    go_enter Try.func16, Try.ntmps16
    go_wp2
    go_step3
    go_wp2
    rw [Exit.noGoto_ret]
    go_ret2
    exact ⟨rfl, rfl⟩

theorem Sequences_any {w : World} {B0 B1 B2 n0 n1 n2 c0 c1 c2 : Nat} {A0 A1 A2 : Option Addr} {cl nw lv : List Int} (base : Int) (hn : n0 = cl.length) (hn1 : n1 = nw.length) (hn2 : n2 = lv.length)
    (h0 : RdInts w B0 .u8 A0 cl) (h1 : RdInts w B1 .u8 A1 nw) (h2 : RdInts w B2 .i8 A2 lv) (hl : n0 ≤ 8388608) :
    Calls Try.prog 16 #[.slice A0 n0 c0, .slice A1 n1 c1, .slice A2 n2 c2, .int .i8 base] w fun r w' => ∃ ov, r = .returned (.tuple #[ov, .int .i64 (seqsL cl nw lv base).2]) ∧ SqsOwn w' w.heap.size ov (seqsL cl nw lv base).1 ∧ Below w.heap.size w w' := by
  by_cases h : n1 ≠ n0 ∨ n2 ≠ n0 ∨ (base ≠ 0 ∧ base ≠ 1)
  · refine (Sequences_arg base h).mono ?_
    rintro r w' ⟨rfl, rfl⟩
    have e : seqsL cl nw lv base = ([], 2) := by unfold seqsL; rw [if_pos (by omega)]
    rw [e]
    exact ⟨_, rfl, SqsOwn.nil _ _, Below.refl _ _⟩
  · obtain rfl : n1 = n0 := by omega
    obtain rfl : n2 = n1 := by omega
    exact Sequences_ok base hn hn1 hn2 h0 h1 h2 (by omega) hl
end Go.Proofs.Ytpdackbcnbhppaa
