/- What becomes of a text; a pair that is found. -/
import Derived.Test.YtpdackbcnbhppaaR20
import Derived.Laws.IdiomStrings
namespace Go.Proofs.Ytpdackbcnbhppaa
open Go.RowKit
attribute [local go_sem] Oper.semAt_some

/-- The runes of the text a(b). -/
theorem cv_ok (w : World) : ∃ (c : Nat) (w' : World), (convert 9 53 (.string ⟨#[97, 40, 98, 41]⟩)).run Try.prog w = .ok (.slice (some ⟨w.heap.size, 0, none⟩) 4 c) w' ∧ RdInts w' w'.heap.size .i32 (some ⟨w.heap.size, 0, none⟩) [97, 40, 98, 41] ∧ Below w.heap.size w w' ∧ w.heap.size < w'.heap.size := by
  have h := run_runes_of_string (P := Try.prog) w 9 53 21 ⟨#[97, 40, 98, 41]⟩ (by kernel_rfl) (by kernel_rfl) (by kernel_rfl) (by decide +kernel)
  have hr : Conv.runesFrom ⟨#[97, 40, 98, 41]⟩ (ByteArray.mk #[97, 40, 98, 41]).size 0 #[] = #[.int .i32 97, .int .i32 40, .int .i32 98, .int .i32 41] := by kernel_rfl
  rw [hr] at h
  refine ⟨_, _, h, ?_, ?_, by simp⟩
  · have B := Blk.new w.drew 21 (#[.int .i32 97, .int .i32 40, .int .i32 98, .int .i32 41] ++ Array.replicate (grownCap w 4 0 21 - 4) (Value.int .i32 0))
    refine ⟨rfl, fun _ => ⟨w.heap.size, 0, rfl, by simp, by simp, fun j u hu => ?_⟩⟩
    have hj : j < 4 := (List.getElem?_eq_some_iff.1 hu).1
    have hc : (w.drew.alloc (.cells (#[.int .i32 97, .int .i32 40, .int .i32 98, .int .i32 41] ++ Array.replicate (grownCap w 4 0 21 - 4) (Value.int .i32 0)) 21)).cell? ⟨w.heap.size, j, none⟩ = _ := B.cell j
    rw [Nat.zero_add]
    refine Eq.trans hc ?_
    rw [Array.getElem?_append_left (by simpa using hj)]
    rcases j with _ | _ | _ | _ | j <;> first | exact hu | omega
  · exact (Below.refl _ w).drew.alloc (Nat.le_refl _) _
theorem tres_at : resS propsL [97, 40, 98, 41] [2, 14, 2, 14] ⟨idsL ([2, 14, 2, 14] : List Int).length, [2, 14, 2, 14], 0, 1, 1⟩ = ⟨[0, 1, 2, 3], [2, 2, 2, 2], 0, 1, 1⟩ := by kernel_rfl
theorem tre_at : resE ([97, 40, 98, 41] : List Int).length ([2, 14, 2, 14] : List Int).length ⟨idsL ([2, 14, 2, 14] : List Int).length, [2, 14, 2, 14], 0, 1, 1⟩ = 0 := by decide +kernel
theorem two4 : ∀ i, i < 4 → ([2, 2, 2, 2] : List Int).getD i 0 = 2 := by decide

set_option maxRecDepth 100000 in
set_option maxHeartbeats 4000000 in
theorem tbecome_ok {w : World} {B B' c c' : Nat} {A A' : Option Addr} (h : RdInts w B .u8 A [2, 14, 2, 14]) (h' : RdInts w B' .u8 A' [2, 2, 2, 2]) :
    Calls Try.prog 62 #[.string ⟨#[97, 40, 98, 41]⟩, .int .i8 0, .slice A 4 c, .slice A' 4 c'] w fun r w' => r = .returned (.bool true) ∧ Below w.heap.size w w' := by
  obtain ⟨cr, W1, hcv, hR, b1, hs1⟩ := cv_ok w
  have hw0 := Nat.le_refl w.heap.size
  go_enter Try.func62, Try.ntmps62
  go_wp2_with (first
    | (go_at_call 38; refine (props_ok _).mono ?_; rintro r1 w1 ⟨pv, rfl, P1, b2⟩)
    | (go_at_call 39
       have b12 := b1.trans (b2.mono (by omega))
       have h2 := h.below b12 (.inr (Nat.le_refl _))
       refine (whole_ok h2 (by decide)).mono ?_
       rintro r2 w2 ⟨sv, rfl, S2, b3⟩)
    | (go_at_call 33
       have hs12 := b12.size
       have b123 := b12.trans (b3.mono hs12)
       have hR3 := (hR.below b2 (.inl (Nat.le_refl _))).below b3 (.inl b2.size)
       have P3 := P1.below b3 (.inl (Nat.le_refl _))
       have h3 := h.below b123 (.inr (Nat.le_refl _))
       have CR := PResolve_ok (rc := cr) (fc := c) (rs := [97, 40, 98, 41]) (fs := [2, 14, 2, 14]) P3 hR3 h3 S2 (by decide) (by decide) (by decide)
       rw [tres_at, tre_at] at CR
       refine CR.mono ?_
       rintro r3 w3 ⟨v, rfl, ⟨pv3, cv3, rfl, I3, J3, ne3⟩, b4⟩
       obtain ⟨cA, cc, hcv3, _, _, rc3⟩ := J3.val
       have hcv3 : cv3 = .slice cA 4 cc := hcv3
       subst hcv3
       obtain ⟨pA, pc, hpv3, _, _, _⟩ := I3.val
       have hpv3 : pv3 = .slice pA 4 pc := hpv3
       subst hpv3
       simp only [Sq.is]
       obtain ⟨y0, y1, y2, y3, y4, yf, yl⟩ := (Blk.new w3 35 #[.slice none 0 0, .slice none 0 0, .int .i8 0, .int .u8 0, .int .u8 0]).c5))
  clear y0 y1 y2 y3 y4 yf yl
  obtain ⟨W4, hW4⟩ : ∃ W4, w3.alloc (.cells #[.slice pA 4 pc, .slice cA 4 cc, .int .i8 0, .int .u8 1, .int .u8 1] 35) = W4 := ⟨_, rfl⟩
  have z1 : W4.cell? ⟨w3.heap.size, 1, none⟩ = some (.slice cA 4 cc) := by rw [← hW4]; exact (Blk.new w3 35 #[.slice pA 4 pc, .slice cA 4 cc, .int .i8 0, .int .u8 1, .int .u8 1]).cell 1
  have zl : w3.heap.size < W4.heap.size := by rw [← hW4]; simp
  have hs2 := b123.size
  have b5 : Below w.heap.size w W4 := by rw [← hW4]; exact (b123.trans (b4.mono hs2)).alloc (by have := b4.size; omega) _
  have rc4 : RdInts W4 w3.heap.size .u8 cA [2, 2, 2, 2] := by rw [← hW4]; exact rc3.alloc _
  have h4 := h'.below b5 (.inr (Nat.le_refl _))
  rw [hW4]
  clear hW4
  go_loopg [12] 4 (fun gk iv wr => ∃ j : Nat, j + gk = 4 ∧ iv = .int .i64 j ∧ ∃ d, wr = W4.drewN d)
  case atStart => exact ⟨0, rfl, rfl, 0, rfl⟩
  case round =>
    obtain ⟨j, hj, rfl, d, rfl⟩ := hrel
    have HJ := Lib.hid hj
    clear hj
    by_cases hlt : j < 4
    · obtain ⟨b1, o1, rfl, _, hb1, k1⟩ := rc4.at_ (i := j) hlt
      obtain ⟨b2, o2, rfl, _, hb2, k2⟩ := h4.at_ (i := j) hlt
      rw [two4 j hlt] at k1 k2
      go_wp2
      go_quiet (fail)
      go_wp2
      go_roundg (4 - (j + 1))
      case rel => exact ⟨j + 1, by have := HJ.out; omega, by go_num, _, rfl⟩
      case measure => have := HJ.out; omega
    · have hj4 : j = 4 := by have := HJ.out; omega
      subst hj4
      go_wp2
      go_ret
      exact ⟨rfl, b5.os, b5.tape, b5.output, b5.size, b5.block⟩

theorem tfind_at : findF propsL [97, 40, 98, 91, 99, 41, 100, 93] ⟨idsL ([1, 14, 1, 14, 1, 14, 1, 14] : List Int).length, [1, 14, 1, 14, 1, 14, 1, 14], 0, 1, 1⟩ = [(1, 5)] := by kernel_rfl
theorem tmay_at : mayL ([97, 40, 98, 91, 99, 41, 100, 93] : List Int).length ⟨idsL ([1, 14, 1, 14, 1, 14, 1, 14] : List Int).length, [1, 14, 1, 14, 1, 14, 1, 14], 0, 1, 1⟩ = 0 := by decide +kernel

set_option maxRecDepth 100000 in
set_option maxHeartbeats 4000000 in
theorem lives_ok (w : World) : Calls Try.prog 27 #[] w fun r w' => r = .returned (.bool true) ∧ Below w.heap.size w w' := by
  go_enter Try.func27, Try.ntmps27
  go_wp2_with (first
    | (go_at_call 38; refine (props_ok _).mono ?_; rintro r1 w1 ⟨pv, rfl, P1, b1⟩)
    | (go_at_call 39
       have hs1 := b1.size
       obtain ⟨Wa, hWa⟩ : ∃ Wa, w1.alloc (.cells #[.int .i32 97, .int .i32 40, .int .i32 98, .int .i32 91, .int .i32 99, .int .i32 41, .int .i32 100, .int .i32 93] 21) = Wa := ⟨_, rfl⟩
       have ba : Below w1.heap.size w1 Wa := by rw [← hWa]; exact (Below.refl _ _).alloc (Nat.le_refl _) _
       have hsa : Wa.heap.size = w1.heap.size + 1 := by rw [← hWa]; simp
       have ra : RdInts Wa Wa.heap.size .i32 (some ⟨w1.heap.size, 0, none⟩) [97, 40, 98, 91, 99, 41, 100, 93] := by rw [← hWa]; exact Reads.blk (n := 8) (size := 1) (Blk.new w1 21 _) rfl
       rw [hWa, ← hsa]
       have c1 : RdInts (Wa.alloc (.cells #[.int .u8 1, .int .u8 14, .int .u8 1, .int .u8 14, .int .u8 1, .int .u8 14, .int .u8 1, .int .u8 14] 28)) (Wa.alloc (.cells #[.int .u8 1, .int .u8 14, .int .u8 1, .int .u8 14, .int .u8 1, .int .u8 14, .int .u8 1, .int .u8 14] 28)).heap.size .u8 (some ⟨Wa.heap.size, 0, none⟩) [1, 14, 1, 14, 1, 14, 1, 14] := Reads.blk (n := 8) (size := 1) (Blk.new Wa 28 _) rfl
       refine (whole_ok (c := 8) c1 (by decide)).mono ?_
       rintro r2 w2 ⟨sv, rfl, S2, b2⟩)
    | (go_at_call 29
       have bb : Below w1.heap.size w1 w2 := (ba.alloc (by omega) _).trans (b2.mono (by simp; omega))
       have hs2 := bb.size
       have P2 := P1.below bb (.inl (Nat.le_refl _))
       have r2 : RdInts w2 Wa.heap.size .i32 (some ⟨w1.heap.size, 0, none⟩) [97, 40, 98, 91, 99, 41, 100, 93] := RdInts.below (Reads.alloc ra _) b2 (.inl (by simp))
       have CF := PFind_ok (rc := 8) (rs := [97, 40, 98, 91, 99, 41, 100, 93]) P2 r2 S2 (by decide) (by decide)
       rw [tfind_at, tmay_at] at CF
       refine CF.mono ?_
       rintro r3 w3 ⟨v, rfl, hv, b3⟩
       obtain ⟨rfl, hv⟩ | ⟨g, cap, rfl, X, hg, hcap⟩ := hv
       · cases hv
       obtain ⟨x0, x1⟩ := X.cell (i := 0) (by decide)
       have xl := X.lt
       have hs3 := b3.size
       have b4 : Below w.heap.size w w3 := b1.trans ((bb.trans (b3.mono hs2)).mono hs1)
       have hs4 := b4.size)
    | (go_at_call 62
       have d1 : RdInts ((w3.alloc (.cells #[.int .u8 2, .int .u8 14, .int .u8 2, .int .u8 14] 28)).alloc (.cells #[.int .u8 2, .int .u8 2, .int .u8 2, .int .u8 2] 28)) (w3.alloc (.cells #[.int .u8 2, .int .u8 14, .int .u8 2, .int .u8 14] 28)).heap.size .u8 (some ⟨w3.heap.size, 0, none⟩) [2, 14, 2, 14] := Reads.alloc (Reads.blk (n := 4) (size := 1) (Blk.new w3 28 #[.int .u8 2, .int .u8 14, .int .u8 2, .int .u8 14]) rfl) _
       have d2 : RdInts ((w3.alloc (.cells #[.int .u8 2, .int .u8 14, .int .u8 2, .int .u8 14] 28)).alloc (.cells #[.int .u8 2, .int .u8 2, .int .u8 2, .int .u8 2] 28)) ((w3.alloc (.cells #[.int .u8 2, .int .u8 14, .int .u8 2, .int .u8 14] 28)).alloc (.cells #[.int .u8 2, .int .u8 2, .int .u8 2, .int .u8 2] 28)).heap.size .u8 (some ⟨w3.heap.size + 1, 0, none⟩) [2, 2, 2, 2] := Reads.blk (n := 4) (size := 1) (g := w3.heap.size + 1) (by have := Blk.new (w3.alloc (.cells #[.int .u8 2, .int .u8 14, .int .u8 2, .int .u8 14] 28)) 28 #[.int .u8 2, .int .u8 2, .int .u8 2, .int .u8 2]; rwa [World.size_alloc] at this) rfl
       refine (tbecome_ok (c := 4) (c' := 4) d1 d2).mono ?_
       rintro r4 w4 ⟨rfl, b5⟩))
  go_ret
  exact ⟨rfl, ((b4.alloc hs4 _).alloc (by simp; omega) _).trans (b5.mono (by simp; omega))⟩
end Go.Proofs.Ytpdackbcnbhppaa
