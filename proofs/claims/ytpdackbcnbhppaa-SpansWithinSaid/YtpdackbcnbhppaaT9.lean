/- Check walked. -/
import Derived.Test.YtpdackbcnbhppaaT4
namespace Go.Proofs.Ytpdackbcnbhppaa
open Go.RowKit
attribute [local go_sem] Oper.semAt_some

def edgeI (c : Int) : Bool := c == 1 || c == 2
def lastAt (pl : List Int) (i : Nat) : Int := if i = 0 then -1 else pl.getD (i - 1) 0
/-- What Check finds wrong at one place. -/
def chkAt (s : Sq) (i : Nat) : Bool := decide (s.pl.getD i 0 ≤ lastAt s.pl i) || remC (s.cs.getD i 0) || (clsC (s.cs.getD i 0) != s.cs.getD i 0)
def chkL (s : Sq) : Int :=
  if s.pl.length = 0 ∨ s.pl.length ≠ s.cs.length ∨ s.lv < 0 ∨ 126 < s.lv ∨ edgeI s.so = false ∨ edgeI s.eo = false then 170
  else if (List.range s.pl.length).any (chkAt s) = true then 170 else 0

set_option maxRecDepth 100000 in
set_option maxHeartbeats 4000000 in
theorem edge_ok (w : World) (c : Int) : Calls Try.prog 56 #[.int .u8 c] w fun r w' => r = .returned (.bool (edgeI c)) ∧ w = w' := by
  go_enter Try.func56, Try.ntmps56
  go_wp2
  all_goals (go_ret; exact ⟨by simp [edgeI, *], rfl⟩)

set_option maxRecDepth 100000 in
set_option maxHeartbeats 4000000 in
theorem Check_ok {w : World} {B B2 n n2 c c2 : Nat} {A A2 : Option Addr} {s : Sq} (hn : n = s.pl.length) (hn2 : n2 = s.cs.length) (h : RdInts w B .i64 A s.pl) (h2 : RdInts w B2 .u8 A2 s.cs) (hl : n ≤ 9223372036854775807) :
    Calls Try.prog 21 #[.agg (s.is (.slice A n c) (.slice A2 n2 c2))] w fun r w' => r = .returned (.int .i64 (chkL s)) ∧ Below w.heap.size w w' := by
  have HN := Lib.hid hn
  have HN2 := Lib.hid hn2
  obtain ⟨pl, cs, lv, so, eo⟩ := s
  simp only [Sq.is] at *
  have hbad : (pl.length = 0 ∨ pl.length ≠ cs.length ∨ lv < 0 ∨ 126 < lv ∨ edgeI so = false ∨ edgeI eo = false) → chkL ⟨pl, cs, lv, so, eo⟩ = 170 := fun h => by unfold chkL; rw [if_pos h]
  have HBAD := Lib.hid hbad
  have hal := (Below.refl w.heap.size w).alloc (Nat.le_refl _) (.cells #[.slice A n c, .slice A2 n2 c2, .int .i8 lv, .int .u8 so, .int .u8 eo] 35)
  have heS := fun (W : World) => edge_ok W so
  have heE := fun (W : World) => edge_ok W eo
  by_cases g1 : n = 0
  · have hv := HBAD.out (.inl (by omega))
    subst g1
    clear hbad hn hn2
    rw [hv]
    go_enter Try.func21, Try.ntmps21
    go_wp2
    go_ret
    exact ⟨rfl, hal⟩
  have hg1 : ((n : Int) == 0) = false := by simp; omega
  by_cases g2 : n = n2
  case neg =>
    have hv := HBAD.out (.inr (.inl (by omega)))
    have hg : ((n : Int) != (n2 : Int)) = true := bne_iff_ne.2 (by omega)
    clear hbad hn hn2
    rw [hv]
    go_enter Try.func21, Try.ntmps21
    go_wp2
    go_ret
    exact ⟨rfl, hal⟩
  subst g2
  have hg2 : ((n : Int) != (n : Int)) = false := bne_self_eq_false _
  by_cases g3 : lv < 0
  · have hv := HBAD.out (.inr (.inr (.inl g3)))
    clear hbad hn hn2
    rw [hv]
    go_enter Try.func21, Try.ntmps21
    go_wp2
    go_ret
    exact ⟨rfl, hal⟩
  by_cases g4 : 126 < lv
  · have hv := HBAD.out (.inr (.inr (.inr (.inl g4))))
    clear hbad hn hn2
    rw [hv]
    go_enter Try.func21, Try.ntmps21
    go_wp2
    go_ret
    exact ⟨rfl, hal⟩
  rcases g5 : edgeI so with _ | _
  · have hv := HBAD.out (.inr (.inr (.inr (.inr (.inl g5)))))
    rw [g5] at heS
    clear hbad hn hn2
    rw [hv]
    go_enter Try.func21, Try.ntmps21
    go_wp2_with (go_at_call_of 56 so; refine (heS _).mono ?_; rintro r1 w1 ⟨rfl, rfl⟩)
    go_ret
    exact ⟨rfl, hal⟩
  rw [g5] at heS
  rcases g6 : edgeI eo with _ | _
  · have hv := HBAD.out (.inr (.inr (.inr (.inr (.inr g6)))))
    rw [g6] at heE
    clear hbad hn hn2
    rw [hv]
    go_enter Try.func21, Try.ntmps21
    go_wp2_with (first
      | (go_at_call_of 56 so; refine (heS _).mono ?_; rintro r1 w1 ⟨rfl, rfl⟩)
      | (go_at_call_of 56 eo; refine (heE _).mono ?_; rintro r1 w1 ⟨rfl, rfl⟩))
    go_ret
    exact ⟨rfl, hal⟩
  rw [g6] at heE
  have hok : chkL ⟨pl, cs, lv, so, eo⟩ = if (List.range n).any (chkAt ⟨pl, cs, lv, so, eo⟩) = true then 170 else 0 := by
    unfold chkL
    rw [if_neg (by simp only [g5, g6]; rintro (h | h | h | h | h | h) <;> first | omega | cases h), ← hn]
  have HOK := Lib.hid hok
  clear hbad hok hn hn2 HBAD
  go_enter Try.func21, Try.ntmps21
  go_wp2_with (first
    | (go_at_call_of 56 so; refine (heS _).mono ?_; rintro r1 w1 ⟨rfl, rfl⟩)
    | (go_at_call_of 56 eo; refine (heE _).mono ?_; rintro r1 w1 ⟨rfl, rfl⟩))
  go_loopg [4, 47] n (fun gk lv_ iv wr => ∃ i : Nat, i + gk = n ∧ iv = .int .i64 i ∧ lv_ = .int .i64 (lastAt pl i) ∧ (∀ j, j < i → chkAt ⟨pl, cs, lv, so, eo⟩ j = false) ∧ ∃ d, wr = (w.alloc (.cells #[.slice A n c, .slice A2 n c2, .int .i8 lv, .int .u8 so, .int .u8 eo] 35)).drewN d)
  case atStart => exact ⟨0, by omega, rfl, rfl, by omega, 0, rfl⟩
  case round =>
    obtain ⟨i, hi, rfl, rfl, hgood, d, rfl⟩ := hrel
    have HI := Lib.hid hi
    have HG := Lib.hid hgood
    clear hi hgood
    by_cases hlt : i < n
    · have hbk : Blk ((w.alloc (.cells #[.slice A n c, .slice A2 n c2, .int .i8 lv, .int .u8 so, .int .u8 eo] 35)).drewN d) w.heap.size 35 #[.slice A n c, .slice A2 n c2, .int .i8 lv, .int .u8 so, .int .u8 eo] := (Blk.new w 35 _).drewN d
      obtain ⟨b1, o1, rfl, _, hb1, k1⟩ := h.at_ (i := i) (by have := HN.out; omega)
      obtain ⟨b2, o2, rfl, _, hb2, k2⟩ := h2.at_ (i := i) (by have := HN2.out; omega)
      have hbadv : chkAt ⟨pl, cs, lv, so, eo⟩ i = (decide (pl.getD i 0 ≤ lastAt pl i) || remC (cs.getD i 0) || (clsC (cs.getD i 0) != cs.getD i 0)) := rfl
      have hnx : lastAt pl (i + 1) = pl.getD i 0 := by unfold lastAt; rw [if_neg (by omega)]; rfl
      generalize pl.getD i 0 = px at *
      generalize cs.getD i 0 = cx at *
      generalize lastAt pl i = la at *
      obtain ⟨q0, q1, q2, q3, q4, qf, ql⟩ := hbk.c5
      have HBV := Lib.hid hbadv
      have HNX := Lib.hid hnx
      clear hbadv hnx hbk
      have hrm := fun (W : World) => Removed_ok W cx
      have hkn := fun (W : World) => known_ok W cx
      by_cases f1 : px ≤ la
      · have hv : chkL ⟨pl, cs, lv, so, eo⟩ = 170 := by
          rw [HOK.out, if_pos]
          exact List.any_eq_true.2 ⟨i, List.mem_range.2 hlt, by rw [HBV.out]; simp [f1]⟩
        go_wp2
        go_quiet ((first | (go_at_call 22; refine (hrm _).mono ?_; rintro e w9 ⟨rfl, rfl⟩; first | exact ⟨rfl, _, rfl⟩ | exact ⟨rfl, _, World.drewN_drewN.symm⟩) | (go_at_call 57; refine (hkn _).mono ?_; rintro e w9 ⟨rfl, rfl⟩; first | exact ⟨rfl, _, rfl⟩ | exact ⟨rfl, _, World.drewN_drewN.symm⟩)))
        go_wp2
        go_ret
        rw [hv]
        exact ⟨rfl, hal.os, hal.tape, hal.output, hal.size, hal.block⟩
      · have hd : decide (px ≤ la) = false := by simp; omega
        rcases f2 : remC cx with _ | _
        · rw [f2] at hrm
          rcases f3 : (clsC cx != cx) with _ | _
          · have f4 : clsC cx = cx := by simpa using f3
            rw [f4] at hkn
            have hE : (cx != cx) = false := bne_self_eq_false _
            go_wp2
            go_quiet ((first | (go_at_call 22; refine (hrm _).mono ?_; rintro e w9 ⟨rfl, rfl⟩; first | exact ⟨rfl, _, rfl⟩ | exact ⟨rfl, _, World.drewN_drewN.symm⟩) | (go_at_call 57; refine (hkn _).mono ?_; rintro e w9 ⟨rfl, rfl⟩; first | exact ⟨rfl, _, rfl⟩ | exact ⟨rfl, _, World.drewN_drewN.symm⟩)))
            go_wp2
            go_roundg (n - (i + 1))
            case rel =>
              refine ⟨i + 1, by have := HI.out; omega, by go_num, by rw [HNX.out], fun j hj => ?_, _, rfl⟩
              by_cases e : j = i
              · rw [e, HBV.out, f2, f3]; simp [f1]
              · exact HG.out j (by omega)
            case measure => have := HI.out; omega
          · have hv : chkL ⟨pl, cs, lv, so, eo⟩ = 170 := by
              rw [HOK.out, if_pos]
              exact List.any_eq_true.2 ⟨i, List.mem_range.2 hlt, by rw [HBV.out]; simp [f3]⟩
            go_wp2
            go_quiet ((first | (go_at_call 22; refine (hrm _).mono ?_; rintro e w9 ⟨rfl, rfl⟩; first | exact ⟨rfl, _, rfl⟩ | exact ⟨rfl, _, World.drewN_drewN.symm⟩) | (go_at_call 57; refine (hkn _).mono ?_; rintro e w9 ⟨rfl, rfl⟩; first | exact ⟨rfl, _, rfl⟩ | exact ⟨rfl, _, World.drewN_drewN.symm⟩)))
            go_wp2
            go_ret
            rw [hv]
            exact ⟨rfl, hal.os, hal.tape, hal.output, hal.size, hal.block⟩
        · rw [f2] at hrm
          have hv : chkL ⟨pl, cs, lv, so, eo⟩ = 170 := by
            rw [HOK.out, if_pos]
            exact List.any_eq_true.2 ⟨i, List.mem_range.2 hlt, by rw [HBV.out]; simp [f2]⟩
          go_wp2
          go_quiet ((first | (go_at_call 22; refine (hrm _).mono ?_; rintro e w9 ⟨rfl, rfl⟩; first | exact ⟨rfl, _, rfl⟩ | exact ⟨rfl, _, World.drewN_drewN.symm⟩) | (go_at_call 57; refine (hkn _).mono ?_; rintro e w9 ⟨rfl, rfl⟩; first | exact ⟨rfl, _, rfl⟩ | exact ⟨rfl, _, World.drewN_drewN.symm⟩)))
          go_wp2
          go_ret
          rw [hv]
          exact ⟨rfl, hal.os, hal.tape, hal.output, hal.size, hal.block⟩
    · have hin : i = n := by have := HI.out; omega
      subst hin
      have hv : chkL ⟨pl, cs, lv, so, eo⟩ = 0 := by
        rw [HOK.out, if_neg]
        rw [List.any_eq_true]
        rintro ⟨j, hj, h3⟩
        rw [HG.out j (List.mem_range.1 hj)] at h3; cases h3
      go_wp2
      go_ret
      rw [hv]
      exact ⟨rfl, hal.os, hal.tape, hal.output, hal.size, hal.block⟩
end Go.Proofs.Ytpdackbcnbhppaa
