/- May a sequence be looked at? -/
import Derived.Test.YtpdackbcnbhppaaR9
import Derived.Test.YtpdackbcnbhppaaT9
namespace Go.Proofs.Ytpdackbcnbhppaa
open Go.RowKit
attribute [local go_sem] Oper.semAt_some

/-- A sequence, as a value. -/
def SqIs (W : World) (B : Nat) (sv : Value) (s : Sq) : Prop := ∃ (A A2 : Option Addr) (c c2 : Nat), sv = .agg (s.is (.slice A s.pl.length c) (.slice A2 s.cs.length c2)) ∧ RdInts W B .i64 A s.pl ∧ RdInts W B .u8 A2 s.cs ∧ s.pl.length ≤ 4611686018427387904 ∧ s.cs.length ≤ 4611686018427387904
theorem SqIs.below {W W' : World} {B C : Nat} {sv : Value} {s : Sq} (h : SqIs W B sv s) (hb : Below C W W') (hC : B ≤ C ∨ W.heap.size ≤ C) : SqIs W' B sv s := by
  obtain ⟨A, A2, c, c2, h1, h2, h3, h4⟩ := h
  exact ⟨A, A2, c, c2, h1, h2.below hb hC, h3.below hb hC, h4⟩
theorem SqIs.more {W : World} {B B' : Nat} {sv : Value} {s : Sq} (h : SqIs W B sv s) (hB : B ≤ B') : SqIs W B' sv s := by
  obtain ⟨A, A2, c, c2, h1, h2, h3, h4⟩ := h
  exact ⟨A, A2, c, c2, h1, h2.more hB, h3.more hB, h4⟩
theorem SqIs.frm {W W' : World} {B : Nat} {sv : Value} {s : Sq} (h : SqIs W B sv s) (hF : Frm (fun _ => False) W W') : SqIs W' B sv s := h.below (hF.below (Nat.le_refl _) (fun _ _ => id)) (.inr (Nat.le_refl _))
theorem check_sq {w : World} {B : Nat} {sv : Value} {s : Sq} (h : SqIs w B sv s) : Calls Try.prog 21 #[sv] w fun r w' => r = .returned (.int .i64 (chkL s)) ∧ Below w.heap.size w w' := by
  obtain ⟨A, A2, c, c2, rfl, h1, h2, h3, _⟩ := h
  exact Check_ok rfl rfl h1 h2 (by omega)

theorem chk_pos {s : Sq} (h : chkL s = 0) : 0 < s.pl.length ∧ s.pl.length = s.cs.length := by
  unfold chkL at h
  split at h
  · cases h
  · rename_i hn
    constructor
    · rcases Nat.eq_zero_or_pos s.pl.length with h0 | h0
      · exact absurd (.inl h0) hn
      · exact h0
    · rcases Nat.decEq s.pl.length s.cs.length with h0 | h0
      · exact absurd (.inr (.inl h0)) hn
      · exact h0
/-- The number that is answered. -/
def mayL (n : Nat) (s : Sq) : Int := if chkL s ≠ 0 then chkL s else if (n : Int) ≤ s.pl.getD (s.pl.length - 1) 0 then 2 else 0

set_option maxRecDepth 100000 in
set_option maxHeartbeats 1000000 in
theorem may_nil (w : World) (n : Int) (s : Sq) (pv cv : Value) : Calls Try.prog 63 #[.nilIface, .int .i64 n, .agg (s.is pv cv)] w fun r w' => r = .returned (.int .i64 1) ∧ Below w.heap.size w w' := by
  obtain ⟨pl, cs, lv, so, eo⟩ := s
  simp only [Sq.is]
  go_enter Try.func63, Try.ntmps63
  go_wp2
  go_ret
  exact ⟨rfl, (Below.refl _ w).alloc (Nat.le_refl _) _⟩

set_option maxRecDepth 100000 in
set_option maxHeartbeats 1000000 in
theorem may_ok {w : World} {B n : Nat} {sv : Value} {s : Sq} (h : SqIs w B sv s) (t : TypeId) (v : Value) (_hn : n ≤ 4611686018427387904) :
    Calls Try.prog 63 #[.iface t v, .int .i64 n, sv] w fun r w' => r = .returned (.int .i64 (mayL n s)) ∧ Below w.heap.size w w' := by
  have h0 := h
  obtain ⟨A, A2, c, c2, hsv, h1, h2, h3, h4⟩ := h
  have CK : ∀ W, Frm (fun _ => False) w W → Calls Try.prog 21 #[sv] W fun r w' => r = .returned (.int .i64 (chkL s)) ∧ Below W.heap.size W w' := fun W hF => check_sq (h0.frm hF)
  subst hsv
  obtain ⟨pl, cs, lv, so, eo⟩ := s
  simp only [Sq.is] at CK ⊢
  simp only at h1 h2 h3 h4
  have F1 : Frm (fun _ => False) w (w.alloc (.cells #[.slice A pl.length c, .slice A2 cs.length c2, .int .i8 lv, .int .u8 so, .int .u8 eo] 35)) := (Frm.refl _ w).alloc _
  have CK1 := CK _ F1
  obtain ⟨e, he⟩ : ∃ e, chkL ⟨pl, cs, lv, so, eo⟩ = e := ⟨_, rfl⟩
  rw [he] at CK1
  clear CK h0
  obtain ⟨m, hm⟩ : ∃ m, mayL n ⟨pl, cs, lv, so, eo⟩ = m := ⟨_, rfl⟩
  rw [hm]
  have HM := Lib.hid hm
  have HE := Lib.hid he
  clear hm he
  obtain ⟨pn, hpn⟩ : ∃ pn, pl.length = pn := ⟨_, rfl⟩
  rw [hpn] at CK1 h3 ⊢
  have HPN := Lib.hid hpn
  clear hpn
  by_cases he0 : e = 0
  · subst he0
    obtain ⟨hp0, hpc⟩ := chk_pos HE.out
    simp only at hp0 hpc
    obtain ⟨b, off, rfl, b1, b2, c0⟩ := h1.at_ (i := pl.length - 1) (by omega)
    obtain ⟨q, hq⟩ : ∃ q, pl.getD (pl.length - 1) 0 = q := ⟨_, rfl⟩
    rw [hq, HPN.out] at c0
    rw [HPN.out] at hp0
    have hlast : IntKind.i64.wrap ((pn : Int) - 1) = ((pn - 1 : Nat) : Int) := by rw [IntWalk.i64_in _ (by omega)]; omega
    have hpl : pn - 1 < pn := by omega
    have HQ := Lib.hid hq
    clear hq hpc
    by_cases hge : (n : Int) ≤ q
    · have hm2 : m = 2 := by rw [← HM.out]; unfold mayL; rw [if_neg (by rw [HE.out]; simp), if_pos (by simp only; rw [HQ.out]; exact hge)]
      subst hm2
      go_enter Try.func63, Try.ntmps63
      go_wp2_with (go_at_call 21; refine CK1.mono ?_; rintro r1 w1 ⟨rfl, bb⟩; have X := (Blk.new w 35 #[.slice (some ⟨b, off, none⟩) pn c, .slice A2 cs.length c2, .int .i8 lv, .int .u8 so, .int .u8 eo]).below bb (by simp); obtain ⟨y0, y1, y2, y3, y4, yf, yl⟩ := X.c5; have hb2 : w1.cell? ⟨b, off + (pn - 1), none⟩ = some (.int .i64 q) := ((bcell bb).1 b _ (by simp; omega)).trans (by rw [World.cell?_alloc_lt _ _ _ (by simpa using b2)]; exact c0))
      go_ret
      exact ⟨rfl, ((Below.refl _ w).alloc (Nat.le_refl _) _).trans (bb.mono (by simp))⟩
    · have hm2 : m = 0 := by rw [← HM.out]; unfold mayL; rw [if_neg (by rw [HE.out]; simp), if_neg (by simp only; rw [HQ.out]; exact hge)]
      subst hm2
      go_enter Try.func63, Try.ntmps63
      go_wp2_with (go_at_call 21; refine CK1.mono ?_; rintro r1 w1 ⟨rfl, bb⟩; have X := (Blk.new w 35 #[.slice (some ⟨b, off, none⟩) pn c, .slice A2 cs.length c2, .int .i8 lv, .int .u8 so, .int .u8 eo]).below bb (by simp); obtain ⟨y0, y1, y2, y3, y4, yf, yl⟩ := X.c5; have hb2 : w1.cell? ⟨b, off + (pn - 1), none⟩ = some (.int .i64 q) := ((bcell bb).1 b _ (by simp; omega)).trans (by rw [World.cell?_alloc_lt _ _ _ (by simpa using b2)]; exact c0))
      go_ret
      exact ⟨rfl, ((Below.refl _ w).alloc (Nat.le_refl _) _).trans (bb.mono (by simp))⟩
  · have hm2 : m = e := by rw [← HM.out]; unfold mayL; rw [if_pos (by rw [HE.out]; exact he0), HE.out]
    subst hm2
    have he1 : (m != 0) = true := by simpa using he0
    go_enter Try.func63, Try.ntmps63
    go_wp2_with (go_at_call 21; refine CK1.mono ?_; rintro r1 w1 ⟨rfl, bb⟩)
    go_ret
    exact ⟨rfl, ((Below.refl _ w).alloc (Nat.le_refl _) _).trans (bb.mono (by simp))⟩
end Go.Proofs.Ytpdackbcnbhppaa
