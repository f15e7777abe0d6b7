/- What Resolve answers: the plain law. -/
import Derived.Test.YtpdackbcnbhppaaR16
namespace Go.Proofs.Ytpdackbcnbhppaa
open Go.RowKit

/-- The pairs and the opening brackets lie in order. -/
def PSin (p : PS) (k : Nat) : Prop := (∀ e ∈ p.l, 0 ≤ e.1 ∧ e.1 < (k : Int)) ∧ ∀ e ∈ p.f, 0 ≤ e.1 ∧ e.1 < e.2 ∧ e.2 < (k : Int)
theorem PSin.mono {p : PS} {k k' : Nat} (h : PSin p k) (hk : k ≤ k') : PSin p k' := ⟨fun e he => by have := h.1 e he; omega, fun e he => by have := h.2 e he; omega⟩
theorem scanK_len {l : List (Int × Int)} {key : Int} {j : Nat} (h : scanK l key l.length = some j) : j < l.length := scanK_lt h
theorem stpM_in {p : PS} {k : Nat} (h : PSin p k) (sd ky : Int) : PSin (stpM p ⟨k, sd, ky⟩) (k + 1) := by
  unfold stpM
  split
  · exact h.mono (by omega)
  · split
    · refine ⟨fun e he => ?_, fun e he => by have := h.2 e he; omega⟩
      unfold opL at he
      split at he
      · have := h.1 e he; omega
      · split at he
        · cases he
        · rcases List.mem_append.1 he with he | he
          · have := h.1 e he; omega
          · simp at he; subst he; simp only; omega
    · constructor
      · intro e he
        simp only at he
        unfold clL at he
        split at he
        · have := h.1 e (List.mem_of_mem_take he); omega
        · have := h.1 e he; omega
      · intro e he
        simp only at he
        unfold clF at he
        split at he
        · rename_i j hj
          rcases List.mem_append.1 he with he | he
          · have := h.2 e he; omega
          · simp at he
            subst he
            have hjl := scanK_len hj
            have : (p.l.getD j (0, 0)) ∈ p.l := by rw [List.getD_eq_getElem?_getD, List.getElem?_eq_getElem hjl]; exact List.getElem_mem hjl
            have := h.1 _ this
            rw [List.getD_eq_getElem?_getD] at this
            simp only
            omega
        · have := h.2 e he; omega
theorem fdT_in (ch : List Chr) (rs : List Int) (s : Sq) : ∀ k, PSin (fdT ch rs s k) k
  | 0 => ⟨fun e he => by simp [fdT, mkT] at he, fun e he => by simp [fdT, mkT] at he⟩
  | k + 1 => by
    rw [fdT_succ]
    have h := fdT_in ch rs s k
    unfold mk1
    split
    · simp only
      split
      · exact stpM_in h _ _
      · split
        · exact stpM_in h _ _
        · exact h.mono (by omega)
    · exact h.mono (by omega)
theorem findF_in {ch : List Chr} {rs : List Int} {s : Sq} : ∀ e ∈ findF ch rs s, 0 ≤ e.1 ∧ e.1 < e.2 ∧ e.2 < (s.pl.length : Int) := by
  intro e he
  unfold findF at he
  split at he
  · exact (fdT_in ch rs s s.pl.length).2 e ((mem_ssort _).1 he)
  · cases he
theorem findF_len {ch : List Chr} {rs : List Int} {s : Sq} : (findF ch rs s).length ≤ s.pl.length := by
  unfold findF
  split
  · rw [ssort_length]; exact (fdT_ok ch rs s s.pl.length).2.1
  · simp

/-- The classes when so many pairs have been settled. -/
def resT (s : Sq) (fs : List Int) (D : List (Int × Int)) : Nat → List Int
  | 0 => s.cs
  | k + 1 => seL s.pl fs s.pl.length (wayL s.lv) s.so (D.getD k (0, 0)).1.toNat (D.getD k (0, 0)).2.toNat (resT s fs D k)
theorem resT_length (s : Sq) (fs : List Int) (D : List (Int × Int)) : ∀ k, (resT s fs D k).length = s.cs.length
  | 0 => rfl
  | k + 1 => by unfold resT; rw [seL_length, resT_length s fs D k]
/-- The number that Resolve answers. -/
def resE (rn fn : Nat) (s : Sq) : Int := if mayL rn s ≠ 0 then mayL rn s else mayL fn s
def Sq.zero : Sq := ⟨[], [], 0, 0, 0⟩
def resS (ch : List Chr) (rs fs : List Int) (s : Sq) : Sq := if resE rs.length fs.length s = 0 then { s with cs := resT s fs (findF ch rs s) (findF ch rs s).length } else Sq.zero
end Go.Proofs.Ytpdackbcnbhppaa
