/- Knows, by both. -/
import Derived.Test.YtaekdnfpgkfjkaaDoorP1
import Derived.Deep.RegionHeld3
namespace Go.Proofs.YtaekdnfpgkfjkaaDoor
open Go.RowKit
attribute [local go_sem] Oper.semAt_some

/-- Do props know the marks? -/
def knL (rest : Int) (ch : List Chr) : Bool := mkL.all fun r => cpL rest ch r == clsM r
theorem mkC_at : ∀ i, i < 12 → mkC.getD i 0 = clsM (mkL.getD i 0) := by decide
theorem knL_no {rest : Int} {ch : List Chr} {r : Int} (hr : r ∈ mkL) (h : cpL rest ch r ≠ clsM r) : knL rest ch = false := by
  rcases hp : knL rest ch with _ | _
  · rfl
  · exact absurd (by simpa using List.all_eq_true.1 hp r hr) h
theorem knL_yes {rest : Int} {ch : List Chr} (h : ∀ r ∈ mkL, cpL rest ch r = clsM r) : knL rest ch = true :=
  List.all_eq_true.2 fun r hr => by simpa using h r hr

set_option maxRecDepth 100000 in
set_option maxHeartbeats 4000000 in
theorem rKnows_ok {w : World} {B : Nat} {pv : Value} {rest : Int} {ch : List Chr} (hP : PropsIs w B pv rest ch) :
    Calls Tryd.prog 13 #[pv] w fun e w' => e = .returned (.bool (knL rest ch)) ∧ Aft w w' := by
  replace hP := hP.clip
  have CT : ∀ W r, Aft w W → Calls Tryd.prog 30 #[pv, .int .i32 r] W fun e w' => e = .returned (.int .u8 (cpL rest ch r)) ∧ Below W.heap.size W w' := fun W r hb => pclass_ok r (hP.below hb (.inl (Nat.le_refl _)))
  obtain ⟨A, c, rfl, hR, hm⟩ := hP
  obtain ⟨n, hn⟩ : ∃ n, ch.length = n := ⟨_, rfl⟩
  rw [hn] at CT hm ⊢
  clear hn
  obtain ⟨W1, hW1⟩ : ∃ W1, w.alloc (.cells #[.int .u8 rest, .slice A n c] 25) = W1 := ⟨_, rfl⟩
  have bW : Aft w W1 := by rw [← hW1]; exact (Aft.refl w).alloc _
  have X : Blk W1 w.heap.size 25 #[.int .u8 rest, .slice A n c] := by rw [← hW1]; exact Blk.new w 25 _
  have HW1 := Lib.hid hW1
  clear hW1 hR
  obtain ⟨kn, hkn⟩ : ∃ b, knL rest ch = b := ⟨_, rfl⟩
  rw [hkn]
  have HKN := Lib.hid hkn
  clear hkn
  go_enter Tryd.func13, Tryd.ntmps13
  go_upto_region 1 with (fail)
  rw [HW1.out]
  go_wp2_with (go_at_call 34; refine (rmarks_ok _).mono ?_; rintro r1 w1 ⟨g, g2, rfl, B1, B2, a1⟩)
  have R1 := rd_lit B1
  have R2 := rd_lit B2
  have X1 := X.below a1 (by have := X.lt; omega)
  clear B1 B2
  go_loopg [5] 12 (fun gk iv wr => ∃ i : Nat, i + gk = 12 ∧ iv = .int .i64 i ∧ (∀ j, j < i → cpL rest ch (mkL.getD j 0) = clsM (mkL.getD j 0)) ∧ Aft w1 wr)
  case atStart => exact ⟨0, by omega, rfl, by omega, Aft.refl _⟩
  case round =>
    obtain ⟨i, hi, rfl, hno, b1⟩ := hrel
    by_cases hlt : i < 12
    · have hc12 := mkC_at i hlt
      obtain ⟨b, off, e1, _, hgl, kc⟩ := R1.at_ (i := i) (by show i < 12; omega)
      cases e1
      obtain ⟨b, off, e1, _, hgl2, kc2⟩ := R2.at_ (i := i) (by show i < 12; omega)
      cases e1
      rw [Nat.zero_add] at kc kc2
      have aw : Aft w wr := (bW.trans a1).trans b1
      have cells : ∀ W, Aft w1 W → W.cell? ⟨w.heap.size, 0, none⟩ = some (.int .u8 rest) ∧ W.cell? ⟨w.heap.size, 1, none⟩ = some (.slice A n c) ∧ W.cell? ⟨g, i, none⟩ = some (.int .i32 (mkL.getD i 0)) ∧ W.cell? ⟨g2, i, none⟩ = some (.int .u8 (mkC.getD i 0)) := fun W hW => by
        obtain ⟨x0, x1, xf, xl⟩ := (X1.below hW X1.lt).c2
        exact ⟨x0, x1, by rw [hW.cell hgl]; exact kc, by rw [hW.cell hgl2]; exact kc2⟩
      obtain ⟨x0, x1, x2, x3⟩ := cells wr b1
      obtain ⟨mr, hmr⟩ : ∃ x, mkL.getD i 0 = x := ⟨_, rfl⟩
      obtain ⟨mc, hmc⟩ : ∃ x, mkC.getD i 0 = x := ⟨_, rfl⟩
      obtain ⟨cp, hcp⟩ : ∃ x, cpL rest ch mr = x := ⟨_, rfl⟩
      rw [hmr, hmc] at cells
      rw [hmr] at x2 hc12
      rw [hmc] at x3 hc12
      have CR : ∀ W, Aft w1 W → Calls Tryd.prog 30 #[.agg #[.int .u8 rest, .slice A n c], .int .i32 mr] W fun e w' => e = .returned (.int .u8 cp) ∧ Below W.heap.size W w' := fun W hb => by rw [← hcp]; exact CT W mr ((bW.trans a1).trans hb)
      have HMR := Lib.hid hmr
      have HMC := Lib.hid hc12
      have HCP := Lib.hid hcp
      have HNO := Lib.hid hno
      have HI := Lib.hid hi
      clear hno hi hmr hc12 hcp hmc kc kc2
      have b1d : Aft w1 wr.drew := b1.drew
      go_upto_region 5 with (fail)
      go_region_held3 (fun W => W.cell? ⟨w.heap.size, 0, none⟩ = some (.int .u8 rest) ∧ W.cell? ⟨w.heap.size, 1, none⟩ = some (.slice A n c) ∧ W.cell? ⟨g, i, none⟩ = some (.int .i32 mr) ∧ W.cell? ⟨g2, i, none⟩ = some (.int .u8 mc) ∧ Aft w1 W) (refine ⟨?_, ?_, ?_, ?_, ?_⟩ <;> assumption)
        ((go_at_call 30; refine (CR _ (by assumption)).mono ?_; rintro r5 w5 ⟨rfl, b5⟩; have b6 : Aft w1 w5 := Aft.trans (by assumption) b5; obtain ⟨y0, y1, y2, y3⟩ := cells w5 b6))
      rcases heq : (cp != mc) with _ | _
      · have he : cp = mc := by simpa using heq
        go_wp2
        go_roundg (12 - (i + 1))
        case rel =>
          refine ⟨i + 1, by have := HI.out; omega, by go_num, fun j hj => ?_, by assumption⟩
          by_cases e : j = i
          · subst e
            rw [HMR.out, HCP.out, he, HMC.out]
          · exact HNO.out j (by omega)
        case measure => have := HI.out; omega
      · have he : cp ≠ mc := by simpa using heq
        have hk0 : kn = false := by
          rw [← HKN.out]
          refine knL_no (r := mr) (by rw [← HMR.out]; exact getD_mem0 _ (by show i < 12; omega)) ?_
          rw [HCP.out, ← HMC.out]; exact he
        subst hk0
        go_wp2
        go_ret
        exact ⟨rfl, (bW.trans a1).trans (by assumption)⟩
    · have hk0 : kn = true := by
        rw [← HKN.out]
        refine knL_yes fun r hr => ?_
        obtain ⟨j, hj, e⟩ := List.mem_iff_getElem.1 hr
        have := hno j (by have : j < 12 := hj; omega)
        rw [List.getD_eq_getElem?_getD, List.getElem?_eq_getElem hj, Option.getD_some, e] at this
        exact this
      subst hk0
      go_wp2
      go_ret
      exact ⟨rfl, (bW.trans a1).trans b1⟩

set_option maxRecDepth 100000 in
theorem Knows_nil (w : World) : Calls Tryd.prog 12 #[.nilIface] w fun e w' => e = .returned (.bool false) ∧ w' = w := by
  go_enter Tryd.func12, Tryd.ntmps12
  go_wp2
  go_ret
  exact ⟨rfl, rfl⟩

@[go_sem] theorem meth_class (w : World) (pv : Value) : (method 237 25 pv "Class").run Tryd.prog w = .ok (30, pv) w := by kernel_rfl
theorem clsM_zero {r : Int} (h : clsM r = 0) : r ∉ mkL := fun hr => by
  have := (isM_mem r).2 hr
  unfold isM at this
  rw [h] at this
  cases this
theorem clsM_mem {r : Int} (h : clsM r ≠ 0) : r ∈ mkL := (isM_mem r).1 (by unfold isM; simpa using h)
theorem mkL_rng {r : Int} (h : r ∈ mkL) : 1564 ≤ r ∧ r ≤ 8297 := by
  simp [mkL] at h; omega

set_option maxRecDepth 100000 in
set_option maxHeartbeats 4000000 in
theorem Knows_ok {w : World} {B : Nat} {pv : Value} {rest : Int} {ch : List Chr} (hP : PropsIs w B pv rest ch) :
    Calls Tryd.prog 12 #[.iface 25 pv] w fun e w' => e = .returned (.bool (knL rest ch)) ∧ Aft w w' := by
  replace hP := hP.clip
  have CT : ∀ W r, Aft w W → Calls Tryd.prog 30 #[pv, .int .i32 r] W fun e w' => e = .returned (.int .u8 (cpL rest ch r)) ∧ Below W.heap.size W w' := fun W r hb => pclass_ok r (hP.below hb (.inl (Nat.le_refl _)))
  obtain ⟨kn, hkn⟩ : ∃ b, knL rest ch = b := ⟨_, rfl⟩
  rw [hkn]
  have HKN := Lib.hid hkn
  clear hkn hP
  go_enter Tryd.func12, Tryd.ntmps12
  go_wp2
  go_loopg [3] 6734 (fun gk iv wr => ∃ i : Nat, i + gk = 6734 ∧ iv = .int .i32 (1564 + i) ∧ (∀ j : Nat, j < i → clsM (1564 + j) ≠ 0 → cpL rest ch (1564 + j) = clsM (1564 + j)) ∧ Aft w wr)
  case atStart => exact ⟨0, by omega, rfl, by omega, Aft.refl _⟩
  case round =>
    obtain ⟨i, hi, rfl, hno, b1⟩ := hrel
    by_cases hlt : i < 6734
    · obtain ⟨r, hr⟩ : ∃ r : Int, 1564 + (i : Int) = r := ⟨_, rfl⟩
      have hrr : 1564 ≤ r ∧ r ≤ 8297 := by omega
      have hnx : 1564 + ((i + 1 : Nat) : Int) = r + 1 := by omega
      rw [hr]
      have hcl := fun W => class_ok W r
      obtain ⟨mc, hmc⟩ : ∃ x, clsM r = x := ⟨_, rfl⟩
      obtain ⟨cp, hcp⟩ : ∃ x, cpL rest ch r = x := ⟨_, rfl⟩
      have CR : ∀ W, Aft w W → Calls Tryd.prog 30 #[pv, .int .i32 r] W fun e w' => e = .returned (.int .u8 cp) ∧ Below W.heap.size W w' := fun W hb => by rw [← hcp]; exact CT W r hb
      rw [hmc] at hcl
      have HNO := Lib.hid hno
      have HR := Lib.hid hr
      have HNX := Lib.hid hnx
      have HMC := Lib.hid hmc
      have HCP := Lib.hid hcp
      have HI := Lib.hid hi
      clear hno hr hnx hmc hcp hi
      rcases hz : (mc != 0) with _ | _
      · go_wp2_with (go_at_call 33; refine (hcl _).mono ?_; rintro r5 w5 ⟨rfl, rfl⟩)
        go_roundg (6734 - (i + 1))
        case rel =>
          refine ⟨i + 1, by have := HI.out; omega, by rw [HNX.out], fun j hj hz2 => ?_, b1⟩
          by_cases e : j = i
          · subst e
            exfalso
            apply hz2
            rw [HR.out, HMC.out]
            simpa using hz
          · exact HNO.out j (by omega) hz2
        case measure => have := HI.out; omega
      · rcases heq : (cp != mc) with _ | _
        · have he : cp = mc := by simpa using heq
          go_wp2_with (first
            | (go_at_call 33; refine (hcl _).mono ?_; rintro r5 w5 ⟨rfl, rfl⟩)
            | (go_at_call 30; refine (CR _ b1).mono ?_; rintro r5 w5 ⟨rfl, b5⟩))
          go_roundg (6734 - (i + 1))
          case rel =>
            refine ⟨i + 1, by have := HI.out; omega, by rw [HNX.out], fun j hj hz2 => ?_, b1.trans b5⟩
            by_cases e : j = i
            · subst e
              rw [HR.out, HMC.out, HCP.out, he]
            · exact HNO.out j (by omega) hz2
          case measure => have := HI.out; omega
        · have he : cp ≠ mc := by simpa using heq
          have hk0 : kn = false := by
            rw [← HKN.out]
            refine knL_no (r := r) (clsM_mem (by rw [HMC.out]; simpa using hz)) ?_
            rw [HCP.out, HMC.out]; exact he
          subst hk0
          go_wp2_with (first
            | (go_at_call 33; refine (hcl _).mono ?_; rintro r5 w5 ⟨rfl, rfl⟩)
            | (go_at_call 30; refine (CR _ b1).mono ?_; rintro r5 w5 ⟨rfl, b5⟩))
          go_ret
          exact ⟨rfl, b1.trans b5⟩
    · have hk0 : kn = true := by
        rw [← HKN.out]
        refine knL_yes fun r hr => ?_
        have := mkL_rng hr
        have h2 := hno (r - 1564).toNat (by omega)
        rw [show 1564 + ((r - 1564).toNat : Int) = r by omega] at h2
        exact h2 (fun hz => clsM_zero hz hr)
      subst hk0
      go_wp2
      go_ret
      exact ⟨rfl, b1⟩
end Go.Proofs.YtaekdnfpgkfjkaaDoor
