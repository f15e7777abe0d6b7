/- SpansOne walked. -/
import Derived.Test.YthifeccmbojcdaaG1
import Derived.Test.YthifeccmbojcdaaT11
namespace Go.Proofs.Ythifeccmbojcdaa
open Go.RowKit
attribute [local go_sem] Oper.semAt_some

theorem pre_rd {w : World} {B : Nat} {k : IntKind} {A : Option Addr} {l m : List Int} (h : RdInts w B k A (l ++ m)) : RdInts w B k A l := by
  have := h.2
  refine ⟨by simp, fun hn => ?_⟩
  obtain ⟨b, off, e, h1, h2, hc⟩ := h.2 (by rw [List.length_append]; omega)
  refine ⟨b, off, e, h1, h2, fun j u hu => hc j u ?_⟩
  rw [List.map_append, List.getElem?_append_left (List.getElem?_eq_some_iff.1 hu).1]
  exact hu

set_option maxRecDepth 100000 in
set_option maxHeartbeats 4000000 in
theorem one_walk {w : World} {A : Option Addr} {cc lvl : Int} {c : Nat} {l : List Int} (h : RdInts w w.heap.size .u8 A l) (hl : l.length ≤ 1048576) :
    Calls Try.prog 7 #[.int .u8 cc, .int .i8 lvl, .slice A l.length c] w fun e w' => e = .returned (.bool true) ∧ Below w.heap.size w w' := by
  have hkl : (keptL l).length ≤ l.length := keptT_length l _
  go_enter Try.func7, Try.ntmps7
  go_upto_region 2 with (go_at_call 28; refine (lent17_ok h (by omega)).mono ?_; rintro r1 w1 ⟨g, cap, rfl, I1, b1⟩)
  have rl : RdInts w1 w1.heap.size .u8 (some ⟨g, 0, none⟩) l := pre_rd I1.rd
  have hs1 := b1.size
  go_upto_region 3 with (first
    | (have t := b2; go_at_call 29; refine (Kept_ok (rl.below b2 (.inr (Nat.le_refl _))) (by omega)).mono ?_; rintro r3 w3 ⟨vb, rfl, J2, b3⟩; obtain ⟨A3, c3, rfl, -, -, -⟩ := J2.val)
    | (go_at_call 29; refine (Kept_ok rl (by omega)).mono ?_; rintro r2 w2 ⟨va, rfl, J1, b2⟩; obtain ⟨A2, c2, rfl, -, -, -⟩ := J1.val))
  have b23 := b2.trans (b3.mono b2.size)
  have b13 := b1.trans (b23.mono hs1)
  have q3 := h.below b13 (.inr (Nat.le_refl _))
  go_upto_region 4 with (go_at_call 30; refine (rKept_ok q3 (by omega)).mono ?_; rintro r4 w4 ⟨vc, rfl, J3, b4⟩; obtain ⟨A4, c4, rfl, -, -, -⟩ := J3.val)
  have hs2 := b2.size
  have hs3 := b3.size
  have hs4 := b4.size
  have b24 := b23.trans (b4.mono b23.size)
  have L4 := I1.below b24 (Nat.le_refl _)
  have q4 := q3.below b4 (.inr (Nat.le_refl _))
  have K1 := (J1.below b3 (Nat.le_refl _)).below b4 (Nat.le_refl _)
  have K2 := J2.below b4 (Nat.le_refl _)
  have o1 := J1.lt
  have o2 := J2.lt
  have o3 := J3.lt
  have b04 := b13.trans (b4.mono b13.size)
  have gl := I1.lt g rfl
  clear J1 J2 I1 rl q3 b1 b2 b3 b23 b13
  generalize hK : keptL l = K at *
  obtain ⟨m, hm⟩ : ∃ m, K.length = m := ⟨_, rfl⟩
  rw [hm] at hkl K1 K2 J3 o1 o2 o3 ⊢
  have HM := Lib.hid hm
  clear hm hK
  go_upto_region 6 with (first
    | (have t := b6; go_at_call 32; refine (kept17_ok (L4.below (b5.trans (b6.mono b5.size)) (Nat.le_refl _)) (q4.below (b5.trans (b6.mono b5.size)) (.inr (Nat.le_refl _))) (by omega)).mono ?_; rintro r7 w7 ⟨rfl, b7⟩)
    | (have t := b5; go_at_call 31; refine (numbers17_ok HM.out.symm HM.out.symm (K2.rd.below b5 (.inr (Nat.le_refl _))) (J3.rd.below b5 (.inr (Nat.le_refl _))) (by have := HM.out; omega)).mono ?_; rintro r6 w6 ⟨rfl, b6⟩)
    | (go_at_call 31; refine (numbers17_ok HM.out.symm HM.out.symm K1.rd J3.rd (by have := HM.out; omega)).mono ?_; rintro r5 w5 ⟨rfl, b5⟩))
  have b47 := (b5.trans (b6.mono b5.size)).trans (b7.mono (b5.trans (b6.mono b5.size)).size)
  have I7 := K1.below b47 (Nat.le_refl _)
  have r2 := K2.rd.below b47 (.inr (Nat.le_refl _))
  have r3 := J3.rd.below b47 (.inr (Nat.le_refl _))
  have b07 := b04.trans (b47.mono b04.size)
  have hs7 := b47.size
  generalize hF : (fun k => (Value.slice A2 m c2).ownBlock = some k) = F
  have HF := Lib.hid hF
  have hml : m ≤ 1048576 := by omega
  have s2 : ∀ x off, A3 = some ⟨x, off, none⟩ → (Value.slice A2 m c2).ownBlock ≠ some x := fun x off e e2 => by have := o1 x e2; have := o2 x (by rw [e]; rfl); omega
  have s3 : ∀ x off, A4 = some ⟨x, off, none⟩ → (Value.slice A2 m c2).ownBlock ≠ some x := fun x off e e2 => by have := o1 x e2; have := o3 x (by rw [e]; rfl); omega
  have hFl : ∀ k, F k → w.heap.size ≤ k := fun k hk => by rw [← HF.out] at hk; have := o1 k hk; omega
  clear hF K1 K2 J3 b5 b6 b7 b47 b04 q4 L4 o1 o2 o3 b4 b24 h
  go_wp2
  go_loopg [11] m (fun gk iv wr => ∃ (j : Nat) (xs : List Int), j + gk = m ∧ iv = .int .i64 j ∧ Ints wr w1.heap.size 3 .i64 (.slice A2 m c2) xs ∧ xs.length = m ∧ Frm F w7 wr)
  case atStart => exact ⟨0, K, by omega, rfl, I7, HM.out, Frm.refl _ _⟩
  case round =>
    clear I7
    obtain ⟨j, xs, hj, rfl, I, hx, b⟩ := hrel
    have HJ := Lib.hid hj
    have HX := Lib.hid hx
    clear hj hx
    by_cases hlt : j < m
    · obtain ⟨g, cap', e⟩ := I.form (by have := HX.out; omega)
      have HE := Lib.hid e
      obtain ⟨rfl, -, -⟩ := Value.slice.inj e
      clear e HE
      obtain ⟨-, _, _, _, hgr, hfr, hce⟩ := I.at_
      have hcj := hce j (by have := HX.out; omega)
      have I2 := I.set j (-5)
      have b2 := b.set (b := g) (j := j) (by rw [← HF.out]; rfl) (.int .i64 (-5))
      clear hce I
      go_wp2
      go_roundg (m - (j + 1))
      case rel => exact ⟨j + 1, xs.set j (-5), by have := HJ.out; omega, by go_num, I2, by rw [List.length_set]; exact HX.out, b2⟩
      case measure => have := HJ.out; omega
    · have hjl : j = m := by have := HJ.out; omega
      subst hjl
      clear HJ
      go_wp2
      go_loopg [8, 12] 40 (fun gk av iv wr => ∃ (i : Nat) (ys : List Int), i + gk = 40 ∧ iv = .int .i64 i ∧ Ints wr w1.heap.size 3 .i64 av ys ∧ ys.length = j + i ∧ Frm F w7 wr ∧ ∀ k, av.ownBlock = some k → F k ∨ w7.heap.size ≤ k)
      case atStart => exact ⟨0, xs, by omega, rfl, I, HX.out, b, fun k hk => .inl (by rw [← HF.out]; exact hk)⟩
      case round =>
        clear I b HX hlt
        obtain ⟨i, ys, hi, rfl, I, hy, b, ho⟩ := hrel
        have HI := Lib.hid hi
        have HY := Lib.hid hy
        clear hi hy
        have hbs := b.size
        by_cases hlt : i < 40
        · go_wp2_with (at_builtin; go_must (refine wpList_appI ei24 rfl rfl rfl (I.alloc _) rfl (Blk.at_ (by simp)) ?_ ?_ ?_ ?_))
          · have := HY.out; unfold maxLen; omega
          · have := HY.out; omega
          · first | omega | (simp; omega)
          intro g cap2 w2 I2 g2 hg
          go_wp2
          go_roundg (40 - (i + 1))
          case rel =>
            refine ⟨i + 1, ys ++ [-6], by have := HI.out; omega, by go_num, I2, by rw [List.length_append]; have := HY.out; simp; omega, (b.alloc _).grown g2 (fun k hk hk2 => (ho k hk).resolve_right (by omega)), fun k hk => ?_⟩
            rcases hg with e | e
            · have : g = k := by simpa [Value.ownBlock] using hk
              subst this
              exact ho _ e
            · have : g = k := by simpa [Value.ownBlock] using hk
              right
              first | omega | (simp at e; omega)
          case measure => have := HI.out; omega
        · have hi40 : i = 40 := by have := HI.out; omega
          subst hi40
          obtain ⟨A5, cap4, rfl, -, -, -⟩ := I.val
          have hy : ys.length = j + 40 := HY.out
          rw [hy] at *
          have h2' := r2.frmA b (fun x off e hx => s2 x off e (by rw [← HF.out] at hx; exact hx))
          have h3' := r3.frmA b (fun x off e hx => s3 x off e (by rw [← HF.out] at hx; exact hx))
          have b9 : Below w.heap.size w wr := b07.trans (b.below b07.size (fun k hk hf => by have := hFl k hf; omega))
          have hrm := fun (W : World) => Removed_ok W cc
          have hrr := fun (W : World) => rRemoved_ok W cc
          have hE1 : (remC cc == remC cc) = true := by simp
          have hE2 : (wayL lvl == wayL lvl) = true := by simp
          clear hy HY
          go_wp2_with (first
            | (go_at_call 31; refine (numbers17_ok HM.out.symm HM.out.symm h2' h3' (by have := HM.out; omega)).mono ?_; rintro r8 w8 ⟨rfl, b8⟩)
            | (go_at_call 33; refine (hrm _).mono ?_; rintro r9 w9 ⟨rfl, rfl⟩)
            | (go_at_call 34; refine (hrr _).mono ?_; rintro r9 w9 ⟨rfl, rfl⟩)
            | (go_at_call 35; refine (Way_ok _ _).mono ?_; rintro r9 w9 ⟨rfl, rfl⟩)
            | (go_at_call 36; refine (rWay_ok _ _).mono ?_; rintro r9 w9 ⟨rfl, rfl⟩)
            | (go_at_call 37; refine (awake17_ok _).mono ?_; rintro r10 w10 ⟨rfl, b10⟩))
          go_ret
          have b11 := b9.trans (b8.mono b9.size)
          exact ⟨rfl, b11.trans (b10.mono b11.size)⟩
end Go.Proofs.Ythifeccmbojcdaa
