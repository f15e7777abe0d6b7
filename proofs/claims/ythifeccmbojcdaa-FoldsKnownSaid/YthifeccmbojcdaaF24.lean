/- What the reference's Marks refuses. -/
import Derived.Test.YthifeccmbojcdaaF23
namespace Go.Proofs.Ythifeccmbojcdaa
open Go.RowKit

theorem GoodO.more {n : Nat} {os : List Int} {k : Nat} (h : GoodO n os k) (h0 : 0 ≤ os.getD k 0 ∧ os.getD k 0 < n) (hd : ∀ j, j < k → os.getD j 0 ≠ os.getD k 0) : GoodO n os (k + 1) := by
  intro i hi
  by_cases hik : i = k
  · subst hik; exact ⟨h0, hd⟩
  · exact h i (by omega)

set_option maxRecDepth 100000 in
set_option maxHeartbeats 1000000 in
theorem rMarks_len {w : World} {A V O : Option Addr} {n n2 n3 c cv co : Nat} (hn : n ≠ n2) :
    Calls Try.prog 27 #[.slice A n c, .slice V n2 cv, .slice O n3 co] w fun r w' => r = .returned (.tuple #[.slice none 0 0, .int .i64 2]) ∧ w = w' := by
  have h1 : ((n : Int) != (n2 : Int)) = true := by simp; omega
  go_enter Try.func27, Try.ntmps27
  go_wp2
  go_ret2
  exact ⟨rfl, rfl⟩

set_option maxRecDepth 100000 in
set_option maxHeartbeats 2000000 in
theorem rMarks_bad {w : World} {B3 : Nat} {A V O : Option Addr} {n n2 o c cv co : Nat} {os : List Int} (hnn : n2 = n) (ho : o = os.length) (h3 : RdInts w B3 .i64 O os) (hol : o ≤ 1048576) (hbad : ¬ GoodO n os o) :
    Calls Try.prog 27 #[.slice A n c, .slice V n2 cv, .slice O o co] w fun r w' => r = .returned (.tuple #[.slice none 0 0, .int .i64 2]) ∧ Below w.heap.size w w' := by
  subst hnn
  have HO := Lib.hid ho
  have HB := Lib.hid hbad
  clear ho hbad
  go_enter Try.func27, Try.ntmps27
  go_wp2
  go_loopg [8] o (fun gk iv wr => ∃ k : Nat, k + gk = o ∧ iv = .int .i64 k ∧ GoodO n2 os k ∧ Below w.heap.size w wr)
  case atStart => exact ⟨0, by omega, rfl, fun i hi => by omega, Below.refl _ _⟩
  case round =>
    obtain ⟨k, hk, rfl, hg, b⟩ := hrel
    obtain ⟨W0, rfl⟩ : ∃ W0, W0 = wr := ⟨_, rfl⟩
    have HK := Lib.hid hk
    have HG := Lib.hid hg
    clear hk hg
    by_cases hlt : k < o
    · obtain ⟨oa, oo, rfl, _, _, hoc⟩ := (h3.below b (.inr (Nat.le_refl _))).cells (by rw [← HO.out]; omega)
      have hc := hoc k (by rw [← HO.out]; exact hlt)
      generalize hx : os.getD k 0 = x at hc
      have HX := Lib.hid hx
      have HOC := Lib.hid hoc
      clear hx hoc
      by_cases hx0 : x < 0
      · go_wp2
        go_ret2
        exact ⟨rfl, b⟩
      · have hx0' : 0 ≤ x := by omega
        by_cases hxn : (n2 : Int) ≤ x
        · go_wp2
          go_ret2
          exact ⟨rfl, b⟩
        · have hxn' : x < (n2 : Int) := by omega
          go_wp2
          go_loopg [9] k (fun gk iv wx => ∃ j : Nat, j + gk = k ∧ iv = .int .i64 j ∧ (∀ i, i < j → os.getD i 0 ≠ x) ∧ ∃ nq, wx = W0.drewN nq)
          case atStart => exact ⟨0, by omega, rfl, by omega, 0, rfl⟩
          case round =>
            obtain ⟨j, hj, rfl, hd, nq0, e⟩ := hrel
            have HJ := Lib.hid hj
            have HD := Lib.hid hd
            clear hj hd
            have bq : Below w.heap.size w wr := by rw [e]; exact ⟨b.os, b.tape, b.output, b.size, b.block⟩
            have hc2 : wr.cell? ⟨oa, oo + k, none⟩ = some (.int .i64 x) := by rw [e]; exact hc
            by_cases hjk : j < k
            · have hcj : wr.cell? ⟨oa, oo + j, none⟩ = some (.int .i64 (os.getD j 0)) := by rw [e]; exact HOC.out j (by rw [← HO.out]; omega)
              have HE := Lib.hid e
              clear e
              generalize hy : os.getD j 0 = y at hcj
              have HY := Lib.hid hy
              clear hy
              have hjo : (j : Int) < (o : Int) := by omega
              have hko : (k : Int) < (o : Int) := by omega
              by_cases hxy : y = x
              · subst hxy
                go_wp2_with (go_quiet (fail))
                go_ret2
                exact ⟨rfl, ⟨bq.os, bq.tape, bq.output, bq.size, bq.block⟩⟩
              · have hyx : (y == x) = false := by simp [hxy]
                have HYX := Lib.hid hxy
                clear hxy
                go_wp2_with (go_quiet (fail))
                go_roundg (k - (j + 1))
                case rel => exact ⟨j + 1, by have := HJ.out; omega, by go_num, fun i hi => by
                  by_cases e : i = j
                  · rw [e, HY.out]; exact HYX.out
                  · exact HD.out i (by omega), nq0 + nq, by rw [HE.out, World.drewN_drewN]⟩
                case measure => have := HJ.out; omega
            · have hjI : ¬ ((j : Int) < (k : Int)) := by omega
              go_wp2
              go_roundg (o - (k + 1))
              case rel => exact ⟨k + 1, by have := HK.out; omega, by go_num, HG.out.more (by rw [HX.out]; omega) (fun i hi => by rw [HX.out]; exact HD.out i (by have := HJ.out; omega)), ⟨b.os, b.tape, b.output, b.size, b.block⟩⟩
              case measure => have := HK.out; omega
    · exact absurd (show GoodO n2 os o by have := HK.out; have e : k = o := by omega
                                          rw [← e]; exact HG.out) HB.out
end Go.Proofs.Ythifeccmbojcdaa
