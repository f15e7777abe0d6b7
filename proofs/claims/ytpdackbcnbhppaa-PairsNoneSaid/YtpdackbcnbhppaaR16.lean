/- A sequence under way: settle. -/
import Derived.Test.YtpdackbcnbhppaaR15
namespace Go.Proofs.Ytpdackbcnbhppaa
open Go.RowKit
attribute [local go_sem] Oper.semAt_some

/-- What a pair becomes; 0: nothing. -/
def seC (cs : List Int) (way so : Int) (o d : Nat) : Int := if wiS cs way (o + 1) (d - (o + 1)) then way else if wiA cs (o + 1) (d - (o + 1)) then ahT cs so o else 0
/-- The classes when a pair has been settled. -/
def seL (pl fs : List Int) (n : Nat) (way so : Int) (o d : Nat) (cs : List Int) : List Int :=
  if (wiS cs way (o + 1) (d - (o + 1)) || wiA cs (o + 1) (d - (o + 1))) = true then becL pl fs n d (seC cs way so o d) (becL pl fs n o (seC cs way so o d) cs) else cs
theorem becL_length (pl fs : List Int) (n k : Nat) (c : Int) (cs : List Int) : (becL pl fs n k c cs).length = cs.length := by unfold becL; rw [bcT_length, List.length_set]
theorem seL_length (pl fs : List Int) (n : Nat) (way so : Int) (o d : Nat) (cs : List Int) : (seL pl fs n way so o d cs).length = cs.length := by
  unfold seL; split
  · rw [becL_length, becL_length]
  · rfl

set_option maxRecDepth 100000 in
set_option maxHeartbeats 2000000 in
theorem settle_ok {w : World} {b g n cc pc fn fc : Nat} {pA fA : Option Addr} {pl cs fs : List Int} {lv so eo way : Int} {Bp : Nat} (h : QIs w b g n cc pc fn fc pA fA pl cs fs lv so eo way Bp) {o d : Nat} (hod : o < d) (hd : d < n) (hm : n ≤ 1048576)
    (hin : ∀ i, i < n → 0 ≤ pl.getD i 0 ∧ pl.getD i 0 < (fn : Int)) (hfn : fn ≤ 4611686018427387904) :
    Calls Try.prog 69 #[.pointer (some ⟨b, 0, none⟩), .agg #[.int .i64 o, .int .i64 d]] w fun e w' => e = .returned (.tuple #[]) ∧ QIs w' b g n cc pc fn fc pA fA pl (seL pl fs n way so o d cs) fs lv so eo way Bp ∧ Frm (fun j => j = g) w w' := by
  have F0 : Frm (fun _ => False) w (w.alloc (.cells #[.int .i64 o, .int .i64 d] 65)) := (Frm.refl _ w).alloc _
  have Q0 := h.frm F0 id id (fun _ _ _ _ => id)
  have CW := within_ok Q0 hod hd hm
  have CB : ∀ (k : Nat) (c : Int) (cs' : List Int) (W : World), k < n → QIs W b g n cc pc fn fc pA fA pl cs' fs lv so eo way Bp → _ := fun k c cs' W hk hQ => become_ok hQ hk hm c hin hfn
  have X3 : Blk (w.alloc (.cells #[.int .i64 o, .int .i64 d] 65)) w.heap.size 65 #[.int .i64 o, .int .i64 d] := Blk.new w 65 _
  have hgs : g < w.heap.size := (h.ic.at_).2.2.2.2.1
  obtain ⟨x0, x1, xf, xl⟩ := X3.c2
  have hS : seL pl fs n way so o d cs = if (wiS cs way (o + 1) (d - (o + 1)) || wiA cs (o + 1) (d - (o + 1))) = true then becL pl fs n d (seC cs way so o d) (becL pl fs n o (seC cs way so o d) cs) else cs := rfl
  have hC : seC cs way so o d = if wiS cs way (o + 1) (d - (o + 1)) then way else if wiA cs (o + 1) (d - (o + 1)) then ahT cs so o else 0 := rfl
  obtain ⟨Z, hZ⟩ : ∃ Z, seL pl fs n way so o d cs = Z := ⟨_, rfl⟩
  rw [hZ] at hS ⊢
  have ho : o < n := by omega
  rcases hs : wiS cs way (o + 1) (d - (o + 1)) with _ | _
  · rcases ha : wiA cs (o + 1) (d - (o + 1)) with _ | _
    · rw [hs, ha] at hS CW
      have hzz : Z = cs := hS
      have HZZ := Lib.hid hzz
      clear hS hC hZ hzz hs ha
      go_enter Try.func69, Try.ntmps69
      go_wp2_with (go_at_call 89; refine CW.mono ?_; rintro r1 w1 ⟨rfl, b1⟩; have Q1 := Q0.below b1 (Nat.le_refl _); obtain ⟨c0, c1, c2, c3, c4, c5, c6, cf, cl⟩ := Q1.c7)
      refine bodyPost_ret (results_none rfl _ _ _) rfl ?_
      exact ⟨rfl, by rw [HZZ.out]; exact Q1, (F0.mono (F' := fun j => j = g) (fun _ _ e => e.elim)).trans (Frm.of_below (F := fun j => j = g) b1) (fun _ _ e => e)⟩
    · rw [hs, ha] at hS CW
      have hcc : seC cs way so o d = ahT cs so o := by rw [hC, hs, ha]; rfl
      obtain ⟨x, hx⟩ : ∃ x, ahT cs so o = x := ⟨_, rfl⟩
      rw [hcc, hx] at hS
      have hzz : Z = becL pl fs n d x (becL pl fs n o x cs) := hS
      have HZZ := Lib.hid hzz
      have CA : ∀ (W : World), QIs W b g n cc pc fn fc pA fA pl cs fs lv so eo way Bp → Calls Try.prog 90 #[.pointer (some ⟨b, 0, none⟩), .int .i64 o] W fun e w' => e = .returned (.int .u8 x) ∧ Below W.heap.size W w' := fun W hQ => by rw [← hx]; exact ahead_ok hQ (by omega) hm
      clear hS hC hZ hzz hs ha hcc hx
      go_enter Try.func69, Try.ntmps69
      go_wp2_with (first
        | (go_at_call 89; refine CW.mono ?_; rintro r1 w1 ⟨rfl, b1⟩; have Q1 := Q0.below b1 (Nat.le_refl _); obtain ⟨c0, c1, c2, c3, c4, c5, c6, cf, cl⟩ := Q1.c7; have X31 := X3.below b1 xl; obtain ⟨y0, y1, yf, yl⟩ := X31.c2)
        | (go_at_call 90; refine (CA _ Q1).mono ?_; rintro r2 w2 ⟨rfl, b2⟩; have Q2 := Q1.below b2 (Nat.le_refl _); have X32 := X31.below b2 X31.lt; obtain ⟨y20, y21, y2f, y2l⟩ := X32.c2)
        | (go_at_call_of 91 o; refine (CB o x _ _ ho Q2).mono ?_; rintro r3 w3 ⟨rfl, Q3, F3⟩; have X33 := X32.frm F3 (by omega); obtain ⟨y30, y31, y3f, y3l⟩ := X33.c2)
        | (go_at_call_of 91 d; refine (CB d x _ _ hd Q3).mono ?_; rintro r4 w4 ⟨rfl, Q4, F4⟩))
      go_end0
      exact ⟨rfl, by rw [HZZ.out]; exact Q4, ((((F0.mono (F' := fun j => j = g) (fun _ _ e => e.elim)).trans (Frm.of_below (F := fun j => j = g) b1) (fun _ _ e => e)).trans (Frm.of_below (F := fun j => j = g) b2) (fun _ _ e => e)).trans F3 (fun _ _ e => e)).trans F4 (fun _ _ e => e)⟩
  · rw [hs] at hS CW
    have hcc : seC cs way so o d = way := by rw [hC, hs]; rfl
    rw [hcc] at hS
    have hzz : Z = becL pl fs n d way (becL pl fs n o way cs) := by rw [hS, Bool.true_or, if_pos rfl]
    have HZZ := Lib.hid hzz
    obtain ⟨aa, haa⟩ : ∃ aa, wiA cs (o + 1) (d - (o + 1)) = aa := ⟨_, rfl⟩
    rw [haa] at CW
    clear hS hC hZ hzz hs hcc haa
    go_enter Try.func69, Try.ntmps69
    go_wp2_with (first
      | (go_at_call 89; refine CW.mono ?_; rintro r1 w1 ⟨rfl, b1⟩; have Q1 := Q0.below b1 (Nat.le_refl _); obtain ⟨c0, c1, c2, c3, c4, c5, c6, cf, cl⟩ := Q1.c7; have X31 := X3.below b1 xl; obtain ⟨y0, y1, yf, yl⟩ := X31.c2)
      | (go_at_call_of 91 o; refine (CB o way _ _ ho Q1).mono ?_; rintro r3 w3 ⟨rfl, Q3, F3⟩; have X33 := X31.frm F3 (by omega); obtain ⟨y30, y31, y3f, y3l⟩ := X33.c2)
      | (go_at_call_of 91 d; refine (CB d way _ _ hd Q3).mono ?_; rintro r4 w4 ⟨rfl, Q4, F4⟩))
    go_end0
    exact ⟨rfl, by rw [HZZ.out]; exact Q4, (((F0.mono (F' := fun j => j = g) (fun _ _ e => e.elim)).trans (Frm.of_below (F := fun j => j = g) b1) (fun _ _ e => e)).trans F3 (fun _ _ e => e)).trans F4 (fun _ _ e => e)⟩
end Go.Proofs.Ytpdackbcnbhppaa
