/- What Find finds: the plain law. -/
import Derived.Test.YtpdackbcnbhppaaR10
namespace Go.Proofs.Ytpdackbcnbhppaa
open Go.RowKit

theorem chk_each {s : Sq} (h : chkL s = 0) : ∀ i, i < s.pl.length → lastAt s.pl i < s.pl.getD i 0 ∧ remC (s.cs.getD i 0) = false ∧ clsC (s.cs.getD i 0) = s.cs.getD i 0 := by
  intro i hi
  unfold chkL at h
  split at h
  · cases h
  · split at h
    · cases h
    · rename_i hn
      have : chkAt s i = false := by
        rcases hx : chkAt s i with _ | _
        · rfl
        · exact absurd (List.any_eq_true.2 ⟨i, List.mem_range.2 hi, hx⟩) hn
      unfold chkAt at this
      simp only [Bool.or_eq_false_iff, decide_eq_false_iff_not, bne_eq_false_iff_eq] at this
      exact ⟨by omega, this.1.2, this.2⟩
theorem chk_inc {s : Sq} (h : chkL s = 0) : ∀ (d i : Nat), i + d < s.pl.length → 0 ≤ s.pl.getD i 0 ∧ s.pl.getD i 0 + d ≤ s.pl.getD (i + d) 0
  | 0, 0, hi => by
    have := (chk_each h 0 hi).1
    unfold lastAt at this
    rw [if_pos rfl] at this
    exact ⟨by omega, by simp⟩
  | 0, i + 1, hi => by
    have h0 := chk_inc h 0 i (by omega)
    have := (chk_each h (i + 1) hi).1
    unfold lastAt at this
    rw [if_neg (by omega)] at this
    have e : i + 1 - 1 = i := by omega
    rw [e] at this
    exact ⟨by omega, by simp⟩
  | d + 1, i, hi => by
    have h0 := chk_inc h d i (by omega)
    have := (chk_each h (i + (d + 1)) hi).1
    unfold lastAt at this
    rw [if_neg (by omega)] at this
    have e : i + (d + 1) - 1 = i + d := by omega
    rw [e] at this
    exact ⟨h0.1, by omega⟩
theorem may_zero {n : Nat} {s : Sq} (h : mayL n s = 0) : chkL s = 0 ∧ ∀ i, i < s.pl.length → 0 ≤ s.pl.getD i 0 ∧ s.pl.getD i 0 < (n : Int) := by
  unfold mayL at h
  split at h
  · rename_i h1; exact absurd h h1
  · rename_i h1
    have h1 : chkL s = 0 := Classical.not_not.1 h1
    split at h
    · cases h
    · rename_i h2
      refine ⟨h1, fun i hi => ?_⟩
      have := chk_inc h1 (s.pl.length - 1 - i) i (by omega)
      have e : i + (s.pl.length - 1 - i) = s.pl.length - 1 := by omega
      rw [e] at this
      exact ⟨this.1, by omega⟩
/-- The first place that lies beyond: the number 2. -/
theorem may_two {n : Nat} {s : Sq} (h : chkL s = 0) : mayL n s = if ∃ i, i < s.pl.length ∧ (n : Int) ≤ s.pl.getD i 0 then 2 else 0 := by
  unfold mayL
  rw [if_neg (by rw [h]; simp)]
  have hp := (chk_pos h).1
  by_cases h2 : (n : Int) ≤ s.pl.getD (s.pl.length - 1) 0
  · rw [if_pos h2, if_pos ⟨s.pl.length - 1, by omega, h2⟩]
  · rw [if_neg h2, if_neg]
    rintro ⟨i, hi, h3⟩
    have := chk_inc h (s.pl.length - 1 - i) i (by omega)
    have e : i + (s.pl.length - 1 - i) = s.pl.length - 1 := by omega
    rw [e] at this
    omega

/-- A bracket of a sequence: its place there, its side, its key. -/
structure Mk where
  i : Int
  sd : Int
  ky : Int
deriving Inhabited
def m3C (m : Mk) : List Value := [.int .i64 m.i, .int .u8 m.sd, .int .i32 m.ky]
theorem enc3 : Enc m3C 3 := ⟨fun _ => rfl, fun x u hu => by simp [m3C] at hu; rcases hu with rfl | rfl | rfl <;> rfl⟩
/-- The mark of one place, if it is a bracket's. -/
def mk1 (ch : List Chr) (rs : List Int) (s : Sq) (i : Nat) : List Mk :=
  if s.cs.getD i 0 = 14 then
    let r := runC (rs.getD (s.pl.getD i 0).toNat 0)
    if (brL ch r).2 = 1 then [⟨i, 1, twL ch (brL ch r).1⟩] else if (brL ch r).2 = 2 then [⟨i, 2, twL ch r⟩] else []
  else []
def mkT (ch : List Chr) (rs : List Int) (s : Sq) : Nat → List Mk
  | 0 => []
  | k + 1 => mkT ch rs s k ++ mk1 ch rs s k
/-- A pile of both. -/
structure PS where
  l : List (Int × Int)
  f : List (Int × Int)
  ov : Bool
def stpM (p : PS) (m : Mk) : PS :=
  if p.ov then p else if m.sd = 1 then ⟨opL p.l p.ov m.i m.ky, p.f, opV p.l p.ov⟩ else ⟨clL p.l m.ky, clF p.l p.f m.i m.ky, p.ov⟩
def fdT (ch : List Chr) (rs : List Int) (s : Sq) (k : Nat) : PS := (mkT ch rs s k).foldl stpM ⟨[], [], false⟩
theorem fdT_succ (ch : List Chr) (rs : List Int) (s : Sq) (k : Nat) : fdT ch rs s (k + 1) = (mk1 ch rs s k).foldl stpM (fdT ch rs s k) := by
  unfold fdT
  rw [mkT, List.foldl_append]
theorem fold_over : ∀ (ms : List Mk) {p : PS}, p.ov = true → ms.foldl stpM p = p
  | [], _, _ => rfl
  | m :: ms, p, h => by
    have e : stpM p m = p := by unfold stpM; rw [if_pos h]
    rw [List.foldl_cons, e]; exact fold_over ms h
theorem fdT_over {ch : List Chr} {rs : List Int} {s : Sq} {k : Nat} (h : (fdT ch rs s k).ov = true) : ∀ d, fdT ch rs s (k + d) = fdT ch rs s k
  | 0 => rfl
  | d + 1 => by
    rw [← Nat.add_assoc, fdT_succ, fold_over _ (by rw [fdT_over h d]; exact h), fdT_over h d]
/-- What always holds of a pile. -/
def PSok (p : PS) (k : Nat) : Prop := p.l.length ≤ 63 ∧ p.f.length ≤ k ∧ (p.ov = true → p.l = [])
theorem PSok.mono {p : PS} {k k' : Nat} (h : PSok p k) (hk : k ≤ k') : PSok p k' := ⟨h.1, by have := h.2.1; omega, h.2.2⟩
theorem clL_len (l : List (Int × Int)) (k : Int) : (clL l k).length ≤ l.length := by
  unfold clL
  split
  · rw [List.length_take]; omega
  · omega
theorem clF_len (l f : List (Int × Int)) (a k : Int) : (clF l f a k).length ≤ f.length + 1 := by
  unfold clF
  split
  · simp
  · omega
theorem opL_len (l : List (Int × Int)) (a k : Int) (h : l.length ≤ 63) : (opL l false a k).length ≤ 63 ∧ (opV l false = true → opL l false a k = []) := by
  unfold opL opV
  rw [if_neg (by decide)]
  split
  · exact ⟨by simp, fun _ => rfl⟩
  · rename_i h2
    refine ⟨by simp; omega, fun h3 => ?_⟩
    simp at h3; omega
theorem stpM_ok {p : PS} {k : Nat} (h : PSok p k) (m : Mk) : PSok (stpM p m) (k + 1) := by
  unfold stpM
  by_cases ho : p.ov = true
  · rw [if_pos ho]; exact h.mono (by omega)
  · have hf : p.ov = false := by simpa using ho
    rw [if_neg ho, hf]
    split
    · exact ⟨(opL_len p.l m.i m.ky h.1).1, by have := h.2.1; simp only; omega, (opL_len p.l m.i m.ky h.1).2⟩
    · exact ⟨Nat.le_trans (clL_len _ _) h.1, by have := h.2.1; have := clF_len p.l p.f m.i m.ky; simp only; omega, fun h2 => by cases h2⟩
theorem fdT_ok (ch : List Chr) (rs : List Int) (s : Sq) : ∀ k, PSok (fdT ch rs s k) k
  | 0 => ⟨by simp [fdT, mkT], by simp [fdT, mkT], fun _ => rfl⟩
  | k + 1 => by
    rw [fdT_succ]
    have h := fdT_ok ch rs s k
    unfold mk1
    split
    · simp only
      split
      · exact stpM_ok h _
      · split
        · exact stpM_ok h _
        · exact h.mono (by omega)
    · exact h.mono (by omega)
/-- What Find answers. -/
def findF (ch : List Chr) (rs : List Int) (s : Sq) : List (Int × Int) := if mayL rs.length s = 0 then ssort (fdT ch rs s s.pl.length).f else []
end Go.Proofs.Ytpdackbcnbhppaa
