/- An answer is written over and grown, and the other one is still what is wanted. -/
import Derived.Test.YthifeccmbojcdaaF5
namespace Go.Proofs.Ythifeccmbojcdaa
open Go.RowKit

set_option maxRecDepth 100000 in
set_option maxHeartbeats 2000000 in
theorem grown_ok {w : World} {D B2 B3 : Nat} {A A2 A3 : Option Addr} {n cap n2 c2 n3 c3 : Nat} {la l : List Int} (hI : Ints w D 3 .i64 (.slice A n cap) la) (hln : la.length = n) (hD : D ≤ w.heap.size) (hn2 : n2 = l.length) (hn3 : n3 = l.length) (hn : n = l.length) (h2 : RdInts w B2 .i64 A2 l) (h3 : RdInts w B3 .i64 A3 l) (hl : l.length ≤ 1048576)
    (s2 : ∀ x off, A2 = some ⟨x, off, none⟩ → (Value.slice A n cap).ownBlock ≠ some x) (s3 : ∀ x off, A3 = some ⟨x, off, none⟩ → (Value.slice A n cap).ownBlock ≠ some x) :
    Calls Try.prog 21 #[.slice A n cap, .slice A2 n2 c2, .slice A3 n3 c3] w fun r w' => r = .returned (.bool true) ∧ Frm (fun k => (Value.slice A n cap).ownBlock = some k) w w' := by
  obtain rfl : n2 = n := hn2.trans hn.symm
  obtain rfl : n3 = n2 := hn3.trans hn.symm
  have HN := Lib.hid hn
  have hnl : n3 ≤ 1048576 := by omega
  have HLA := Lib.hid hln
  clear hn hn2 hn3 hln hl
  generalize hF : (fun k => (Value.slice A n3 cap).ownBlock = some k) = F
  have HF := Lib.hid hF
  clear hF
  go_enter Try.func21, Try.ntmps21
  go_wp2
  go_loopg [7] n3 (fun gk iv wr => ∃ (j : Nat) (xs : List Int), j + gk = n3 ∧ iv = .int .i64 j ∧ Ints wr D 3 .i64 (.slice A n3 cap) xs ∧ xs.length = n3 ∧ Frm F w wr)
  case atStart => exact ⟨0, la, by omega, rfl, hI, HLA.out, Frm.refl _ _⟩
  case round =>
    obtain ⟨j, xs, hj, rfl, I, hx, b⟩ := hrel
    have HJ := Lib.hid hj
    have HX := Lib.hid hx
    clear hj hx
    by_cases hlt : j < n3
    · obtain ⟨g, cap', e⟩ := I.form (by have := HX.out; omega)
      have HE := Lib.hid e
      obtain ⟨rfl, -, -⟩ := Value.slice.inj e
      clear e HE
      obtain ⟨-, _, _, _, hgr, hfr, hce⟩ := I.at_
      have hcj := hce j (by have := HX.out; omega)
      have I2 := I.set j (-5)
      have b2 := b.set (b := g) (j := j) (by rw [← HF.out]; rfl) (.int .i64 (-5))
      clear hce I
      go_wp2
      go_roundg (n3 - (j + 1))
      case rel => exact ⟨j + 1, xs.set j (-5), by have := HJ.out; omega, by go_num, I2, by rw [List.length_set]; exact HX.out, b2⟩
      case measure => have := HJ.out; omega
    · have hjl : j = n3 := by have := HJ.out; omega
      subst hjl
      clear HJ
      go_wp2
      go_loopg [0, 8] 40 (fun gk av iv wr => ∃ (i : Nat) (ys : List Int), i + gk = 40 ∧ iv = .int .i64 i ∧ Ints wr D 3 .i64 av ys ∧ ys.length = j + i ∧ Frm F w wr ∧ ∀ k, av.ownBlock = some k → F k ∨ w.heap.size ≤ k)
      case atStart => exact ⟨0, xs, by omega, rfl, I, HX.out, b, fun k hk => .inl (by rw [← HF.out]; exact hk)⟩
      case round =>
        clear I b HX hlt
        obtain ⟨i, ys, hi, rfl, I, hy, b, ho⟩ := hrel
        have HI := Lib.hid hi
        have HY := Lib.hid hy
        clear hi hy
        have hbs := b.size
        by_cases hlt : i < 40
        · go_wp2_with (at_builtin; go_must (refine wpList_appI ei24 rfl rfl rfl (I.alloc _) rfl (Blk.at_ (by simp)) ?_ ?_ ?_ ?_))
          · have := HY.out; unfold maxLen; omega
          · have := HY.out; omega
          · first | omega | (simp; omega)
          intro g cap2 w2 I2 g2 hg
          go_wp2
          go_roundg (40 - (i + 1))
          case rel =>
            refine ⟨i + 1, ys ++ [-6], by have := HI.out; omega, by go_num, I2, by rw [List.length_append]; have := HY.out; simp; omega, (b.alloc _).grown g2 (fun k hk hk2 => (ho k hk).resolve_right (by omega)), fun k hk => ?_⟩
            rcases hg with e | e
            · have : g = k := by simpa [Value.ownBlock] using hk
              subst this
              exact ho _ e
            · have : g = k := by simpa [Value.ownBlock] using hk
              right
              first | omega | (simp at e; omega)
          case measure => have := HI.out; omega
        · have hi40 : i = 40 := by have := HI.out; omega
          subst hi40
          obtain ⟨A4, cap4, rfl, -, -, -⟩ := I.val
          have hy : ys.length = j + 40 := HY.out
          rw [hy] at *
          have h2' := h2.frmA b (fun x off e hx => s2 x off e (by rw [← HF.out] at hx; exact hx))
          have h3' := h3.frmA b (fun x off e hx => s3 x off e (by rw [← HF.out] at hx; exact hx))
          clear hy HY
          go_wp2_with (go_at_call 20; refine (numbers_ok HN.out HN.out h2' h3' (by have := HN.out; omega)).mono ?_; rintro r5 w5 ⟨rfl, b5⟩)
          go_ret
          exact ⟨rfl, b.trans (Frm.of_below (F := fun _ => False) b5) (fun _ _ e => e.elim)⟩
end Go.Proofs.Ythifeccmbojcdaa
