/- What awake asks, reckoned. -/
import Derived.Test.YtaekdnfpgkfjkaaDoorN7
import Derived.Test.YtaekdnfpgkfjkaaDoorM1
import Derived.Test.YtaekdnfpgkfjkaaDoorK5
import Derived.Test.YtaekdnfpgkfjkaaDoorC6
namespace Go.Proofs.YtaekdnfpgkfjkaaDoor
open Go.RowKit

theorem aw1 : layF 14 knP ⟨#[97, 215, 144]⟩ 0 [0, 1] = ([226, 128, 142, 97, 226, 128, 142, 226, 128, 174, 215, 144, 226, 128, 172], 0) := by decide +kernel
theorem aw2 : layF 14 knP ⟨#[215, 144]⟩ 0 [0] = ([], 242) := by decide +kernel
theorem aw3 : stripL ⟨#[226, 128, 142, 97, 226, 128, 142, 226, 128, 174, 215, 144, 226, 128, 172]⟩ = [97, 215, 144] := by decide +kernel
theorem aw4 : cntM (chs ⟨#[226, 128, 142, 97, 226, 128, 142, 226, 128, 174, 215, 144, 226, 128, 172]⟩) = 4 := by decide +kernel
theorem aw5 : closeL ⟨#[226, 129, 166, 97]⟩ = ⟨#[226, 129, 166, 97, 226, 129, 169]⟩ := by decide +kernel

attribute [local go_sem] Oper.semAt_some
theorem rd_blk {w : World} {g : Nat} {t : TypeId} {k : IntKind} {l : List Int} {cs : Array Value} (h : Blk w g t cs) (e : cs = (l.map (.int k)).toArray) : RdInts w w.heap.size k (some ⟨g, 0, none⟩) l := by subst e; exact rd_lit h

set_option maxRecDepth 100000 in
set_option maxHeartbeats 4000000 in
theorem awake_ok {w : World} (hT : Lib.Utf8Tabs 0 1 w) (h2 : 2 ≤ w.heap.size) : Calls Tryd.prog 11 #[] w fun r w' => r = .returned (.bool true) ∧ Aft w w' := by
  have CK := fun W => knownP_ok W
  have L1 : ∀ (W W1 : World) (pv : Value), Aft w W → PropsIs W W.heap.size pv 14 knP → Blk W1 W.heap.size 32 #[.int .i8 0, .int .i8 1] → W.alloc (.cells #[.int .i8 0, .int .i8 1] 32) = W1 → Calls Tryd.prog 16 #[.iface 25 pv, .string ⟨#[97, 215, 144]⟩, .int .i8 0, .slice (some ⟨W.heap.size, 0, none⟩) 2 2] W1 fun r w' => r = .returned (.tuple #[.string ⟨#[226, 128, 142, 97, 226, 128, 142, 226, 128, 174, 215, 144, 226, 128, 172]⟩, .int .i64 0]) ∧ Aft W w' := fun W W1 pv hW hP hB e => by
    have a1 : Aft W W1 := by rw [← e]; exact (Aft.refl W).alloc _
    have a2 := hW.trans a1
    have := Lay_ok (w := W1) (pv := pv) (rest := 14) (ch := knP) (s := ⟨#[97, 215, 144]⟩) (b := 0) (ls := [0, 1]) (n := 2) (c := 2) (tabs_aft hT a2) (by have := a2.size; omega) (hP.below a1 (.inr (Nat.le_refl _))) (rd_blk hB rfl) rfl (by decide) (by decide)
    rw [aw1] at this
    exact this.mono fun _ _ h => ⟨h.1, a1.trans h.2⟩
  have L2 : ∀ (W W1 : World) (pv : Value), Aft w W → PropsIs W W.heap.size pv 14 knP → Blk W1 W.heap.size 32 #[.int .i8 0] → W.alloc (.cells #[.int .i8 0] 32) = W1 → Calls Tryd.prog 16 #[.iface 25 pv, .string ⟨#[215, 144]⟩, .int .i8 0, .slice (some ⟨W.heap.size, 0, none⟩) 1 1] W1 fun r w' => r = .returned (.tuple #[.string ⟨#[]⟩, .int .i64 242]) ∧ Aft W w' := fun W W1 pv hW hP hB e => by
    have a1 : Aft W W1 := by rw [← e]; exact (Aft.refl W).alloc _
    have a2 := hW.trans a1
    have := Lay_ok (w := W1) (pv := pv) (rest := 14) (ch := knP) (s := ⟨#[215, 144]⟩) (b := 0) (ls := [0]) (n := 1) (c := 1) (tabs_aft hT a2) (by have := a2.size; omega) (hP.below a1 (.inr (Nat.le_refl _))) (rd_blk hB rfl) rfl (by decide) (by decide)
    rw [aw2] at this
    exact this.mono fun _ _ h => ⟨h.1, a1.trans h.2⟩
  have S1 : ∀ W, Aft w W → Calls Tryd.prog 20 #[.string ⟨#[226, 128, 142, 97, 226, 128, 142, 226, 128, 174, 215, 144, 226, 128, 172]⟩] W fun r w' => r = .returned (.tuple #[.string ⟨#[97, 215, 144]⟩, .int .i64 4]) ∧ Aft W w' := fun W hW => by
    have := Strip_ok (w := W) (s := ⟨#[226, 128, 142, 97, 226, 128, 142, 226, 128, 174, 215, 144, 226, 128, 172]⟩) (tabs_aft hT hW) (by have := hW.size; omega) (by decide)
    rw [aw3, aw4] at this
    exact this
  have C1 : ∀ W, Aft w W → Calls Tryd.prog 18 #[.string ⟨#[226, 129, 166, 97]⟩] W fun r w' => r = .returned (.string ⟨#[226, 129, 166, 97, 226, 129, 169]⟩) ∧ Aft W w' := fun W hW => by
    have := Close_ok (w := W) (s := ⟨#[226, 129, 166, 97]⟩) (tabs_aft hT hW) (by have := hW.size; omega) (by decide)
    rw [aw5] at this
    exact this
  go_enter Tryd.func11, Tryd.ntmps11
  go_upto_region 2 with (first
    | (go_at_call 32; refine (CK _).mono ?_; rintro r1 w1 ⟨pv, rfl, P1, a1⟩)
    | (go_at_call 16; refine (L1 _ _ _ a1 P1 (Blk.new _ _ _) rfl).mono ?_; rintro r2 w2 ⟨rfl, a2⟩))
  have a12 := a1.trans a2
  go_upto_region 3 with (go_at_call 20; refine (S1 _ a12).mono ?_; rintro r3 w3 ⟨rfl, a3⟩)
  have a13 := a12.trans a3
  go_upto_region 4 with (first
    | (go_at_call 32; refine (CK _).mono ?_; rintro r4 w4 ⟨pv4, rfl, P4, a4⟩; have a14 := a13.trans a4)
    | (go_at_call 16; refine (L2 _ _ _ a14 P4 (Blk.new _ _ _) rfl).mono ?_; rintro r5 w5 ⟨rfl, a5⟩))
  have a15 := a14.trans a5
  go_wp2_with (go_at_call 18; refine (C1 _ a15).mono ?_; rintro r6 w6 ⟨rfl, a6⟩)
  go_ret
  exact ⟨rfl, a15.trans a6⟩
end Go.Proofs.YtaekdnfpgkfjkaaDoor
