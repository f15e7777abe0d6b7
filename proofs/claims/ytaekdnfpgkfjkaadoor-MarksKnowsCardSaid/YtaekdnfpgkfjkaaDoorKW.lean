/- Who knows the marks: the walk. -/
import Derived.Test.YtaekdnfpgkfjkaaDoorN8
import Derived.Deep.RegionHeld3
namespace Go.Proofs.YtaekdnfpgkfjkaaDoor
open Go.RowKit
attribute [local go_sem] Oper.semAt_some

set_option maxRecDepth 100000 in
set_option maxHeartbeats 4000000 in
theorem knows_walk {w : World} {B : Nat} {pv : Value} {rest r : Int} {ch : List Chr} (hT : Lib.Utf8Tabs 0 1 w) (h2 : 2 ≤ w.heap.size) (hP : PropsIs w B pv rest ch) :
    Calls Tryd.prog 3 #[pv, .int .i32 r] w fun e w' => e = .returned (.bool true) ∧ Aft w w' := by
  replace hP := hP.clip
  have CM : ∀ W, Aft w W → Calls Tryd.prog 10 #[pv] W fun e w' => e = .returned (.bool (mayP rest ch)) ∧ Aft W w' := fun W hW => May_ok (hP.below hW (.inl (Nat.le_refl _)))
  have CK : ∀ W, Aft w W → Calls Tryd.prog 12 #[.iface 25 pv] W fun e w' => e = .returned (.bool (knL rest ch)) ∧ Aft W w' := fun W hW => Knows_ok (hP.below hW (.inl (Nat.le_refl _)))
  have CR : ∀ W, Aft w W → Calls Tryd.prog 13 #[pv] W fun e w' => e = .returned (.bool (knL rest ch)) ∧ Aft W w' := fun W hW => rKnows_ok (hP.below hW (.inl (Nat.le_refl _)))
  have CA : ∀ W, Aft w W → Calls Tryd.prog 11 #[] W fun e w' => e = .returned (.bool true) ∧ Aft W w' := fun W hW => awake_ok (tabs_aft hT hW) (by have := hW.size; omega)
  have CI := fun W => Is_ok W r
  have CJ := fun W => rIs_ok W r
  obtain ⟨pA, pc, rfl, -, -⟩ := hP
  obtain ⟨pn, hpn⟩ : ∃ pn, ch.length = pn := ⟨_, rfl⟩
  rw [hpn] at CM CK CR ⊢
  clear hpn
  obtain ⟨W1, hW1⟩ : ∃ W1, w.alloc (.cells #[.int .u8 rest, .slice pA pn pc] 25) = W1 := ⟨_, rfl⟩
  have bW : Aft w W1 := by rw [← hW1]; exact (Aft.refl w).alloc _
  have X : Blk W1 w.heap.size 25 #[.int .u8 rest, .slice pA pn pc] := by rw [← hW1]; exact Blk.new w 25 _
  have CM0 := CM W1 bW
  obtain ⟨kn, hkn⟩ : ∃ x, knL rest ch = x := ⟨_, rfl⟩
  obtain ⟨my, hmy⟩ : ∃ x, mayP rest ch = x := ⟨_, rfl⟩
  obtain ⟨m, hm⟩ : ∃ x, isM r = x := ⟨_, rfl⟩
  rw [hkn] at CK CR
  rw [hmy] at CM0
  rw [hm] at CI CJ
  clear hkn hmy hm CM
  have CV : ∀ W v b, ((v = Value.iface 25 (.agg #[.int .u8 rest, .slice pA pn pc]) ∧ b = kn) ∨ (v = .nilIface ∧ b = false)) → Aft w W → Calls Tryd.prog 12 #[v] W fun e w' => e = .returned (.bool b) ∧ Aft W w' := fun W v b h hW => by
    rcases h with ⟨rfl, rfl⟩ | ⟨rfl, rfl⟩
    · exact CK W hW
    · exact (Knows_nil W).mono fun _ _ h => ⟨h.1, by rw [h.2]; exact Aft.refl _⟩
  clear CK
  go_enter Tryd.func3, Tryd.ntmps3
  go_upto_region 1 with (fail)
  clear hW1
  obtain ⟨x0, x1, xf, xl⟩ := X.c2
  rcases my with _ | _
  · go_wp2_with (first
      | (go_at_call 10; refine CM0.mono ?_; rintro r1 w1 ⟨rfl, b1⟩; have a1 := bW.trans b1; have CA1 := CA _ a1)
      | (go_at_call 11; refine CA1.mono ?_; rintro r2 w2 ⟨rfl, b2⟩))
    go_ret
    exact ⟨rfl, a1.trans b2⟩
  · go_upto_region 3 with (go_at_call 10; refine CM0.mono ?_; rintro r1 w1 ⟨rfl, b1⟩)
    have a1 := bW.trans b1
    have X1 := X.aft b1
    obtain ⟨y0, y1, yf, yl⟩ := X1.c2
    have a1d : Aft w w1.drew := a1.drew
    have cells : ∀ W, Aft w1 W → W.cell? ⟨w.heap.size, 0, none⟩ = some (.int .u8 rest) ∧ W.cell? ⟨w.heap.size, 1, none⟩ = some (.slice pA pn pc) := fun W hW => by
      obtain ⟨y0, y1, yf, yl⟩ := (X1.aft hW).c2
      exact ⟨y0, y1⟩
    have z1 : Aft w1 w1.drew := (Aft.refl w1).drew
    rcases kn with _ | _ <;> rcases m with _ | _
    all_goals
      go_region_held3 (fun W => W.cell? ⟨w.heap.size, 0, none⟩ = some (.int .u8 rest) ∧ W.cell? ⟨w.heap.size, 1, none⟩ = some (.slice pA pn pc) ∧ Aft w1 W) (refine ⟨?_, ?_, ?_⟩ <;> assumption)
        ((first
          | (go_at_call 12; refine (CV _ _ _ (by first | exact .inl ⟨rfl, rfl⟩ | exact .inr ⟨rfl, rfl⟩) (a1.trans (by assumption))).mono ?_; rintro r5 w5 ⟨rfl, b5⟩; have b6 : Aft w1 w5 := Aft.trans (by assumption) b5; obtain ⟨y0, y1⟩ := cells w5 b6)
          | (go_at_call 13; refine (CR _ (a1.trans (by assumption))).mono ?_; rintro r5 w5 ⟨rfl, b5⟩; have b6 : Aft w1 w5 := Aft.trans (by assumption) b5; obtain ⟨y0, y1⟩ := cells w5 b6)
          | (go_at_call 11; refine (CA _ (a1.trans (by assumption))).mono ?_; rintro r5 w5 ⟨rfl, b5⟩; have b6 : Aft w1 w5 := Aft.trans (by assumption) b5; obtain ⟨y0, y1⟩ := cells w5 b6)
          | (go_at_call 14; refine (CI _).mono ?_; rintro r5 w5 ⟨rfl, rfl⟩)
          | (go_at_call 15; refine (CJ _).mono ?_; rintro r5 w5 ⟨rfl, b5⟩; have b6 : Aft w1 w5 := Aft.trans (by assumption) b5; obtain ⟨y0, y1⟩ := cells w5 b6)))
    all_goals
      go_wp2
      go_ret
      exact ⟨rfl, a1.trans (by assumption)⟩
end Go.Proofs.YtaekdnfpgkfjkaaDoor
