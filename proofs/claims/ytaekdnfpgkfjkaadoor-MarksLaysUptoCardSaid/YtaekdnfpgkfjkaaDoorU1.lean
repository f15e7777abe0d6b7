/- Pieces of a text: a character, or one bad byte. What becomes of pieces that are put together anew. -/
import Derived.Test.YtaekdnfpgkfjkaaDoorS1
import Derived.Lib.DecodeN
namespace Go.Proofs.YtaekdnfpgkfjkaaDoor
open Go.Lib

def gn (l : List UInt8) (i : Nat) : Nat := (l.getD i 0).toNat
/-- The first character of bytes: which, and how many bytes. -/
def dcl (l : List UInt8) : Nat × Nat := decodeN l.length (gn l 0) (gn l 1) (gn l 2) (gn l 3)
theorem gn_drop (l : List UInt8) (p i : Nat) : gn (l.drop p) i = gn l (p + i) := by
  unfold gn
  rw [List.getD_eq_getElem?_getD, List.getElem?_drop, List.getD_eq_getElem?_getD]
theorem get_gn (s : ByteArray) (i : Nat) : (s.get! i).toNat = gn s.data.toList i := by
  unfold gn
  rw [List.getD_eq_getElem?_getD]
  show (s.data[i]!).toNat = _
  rw [Array.getElem!_eq_getD, Array.getD_eq_getD_getElem?, ← Array.getElem?_toList]
  rfl
theorem dcl_of (s : ByteArray) (p : Nat) : Utf8.decode s p = dcl (s.data.toList.drop p) := by
  rw [decode_at]
  unfold dcl
  rw [gn_drop, gn_drop, gn_drop, gn_drop, get_gn, get_gn, get_gn, get_gn, List.length_drop]
  rfl
theorem dcl_pos (l : List UInt8) : 1 ≤ (dcl l).2 := by
  unfold dcl decodeN
  (repeat' split) <;> simp
theorem dcl_le {l : List UInt8} (h : l ≠ []) : (dcl l).2 ≤ l.length := by
  have : 0 < l.length := by rcases l with _ | _ <;> simp_all
  unfold dcl decodeN
  (repeat' split) <;> simp only <;> omega

def plF : Nat → List UInt8 → List (Nat × List UInt8)
  | 0, _ => []
  | f + 1, l => if l = [] then [] else ((dcl l).1, l.take (dcl l).2) :: plF f (l.drop (dcl l).2)
def pl (l : List UInt8) : List (Nat × List UInt8) := plF l.length l
theorem plF_fuel : ∀ (f : Nat) (l : List UInt8), l.length ≤ f → plF f l = pl l
  | 0, l, h => by
    have : l = [] := List.eq_nil_of_length_eq_zero (by omega)
    subst this; rfl
  | f + 1, l, h => by
    by_cases h0 : l = []
    · subst h0; rfl
    · have hp := dcl_pos l
      have hl : 0 < l.length := by rcases l with _ | _ <;> simp_all
      obtain ⟨m, hm⟩ : ∃ m, l.length = m + 1 := ⟨l.length - 1, by omega⟩
      unfold pl
      rw [hm]
      show (if l = [] then _ else _) = (if l = [] then _ else _)
      rw [if_neg h0, if_neg h0, plF_fuel f _ (by rw [List.length_drop]; omega), plF_fuel m _ (by rw [List.length_drop]; omega)]
theorem pl_nil : pl [] = [] := rfl
theorem pl_go {l : List UInt8} (h : l ≠ []) : pl l = ((dcl l).1, l.take (dcl l).2) :: pl (l.drop (dcl l).2) := by
  have hp := dcl_pos l
  have hl : 0 < l.length := by rcases l with _ | _ <;> simp_all
  obtain ⟨m, hm⟩ : ∃ m, l.length = m + 1 := ⟨l.length - 1, by omega⟩
  conv => lhs; unfold pl
  rw [hm]
  show (if l = [] then _ else _) = _
  rw [if_neg h, plF_fuel m _ (by rw [List.length_drop]; omega)]
theorem pl_of (s : ByteArray) : ∀ p, (chA s p).map (fun c => (c.r, cut s c)) = pl (s.data.toList.drop p) := fun p => by
  refine chA_ind (s := s) (P := fun p => (chA s p).map (fun c => (c.r, cut s c)) = pl (s.data.toList.drop p)) (fun p h => ?_) (fun p h ih => ?_) _ p (Nat.le_refl _)
  · rw [chA_end h, List.drop_eq_nil_of_le (by show s.data.size ≤ p; exact Nat.le_of_not_lt h)]; rfl
  · have hne : s.data.toList.drop p ≠ [] := fun e => by
      have := congrArg List.length e
      rw [List.length_drop] at this
      have h : p < s.data.toList.length := h
      simp only [List.length_nil] at this
      omega
    have e := pl_go hne
    rw [← dcl_of, List.drop_drop] at e
    rw [chA_go h, List.map_cons, ih, e]
    congr 2
    unfold cut
    simp
theorem pl_chs (s : ByteArray) : (chs s).map (fun c => (c.r, cut s c)) = pl s.data.toList := by
  have := pl_of s 0
  simpa [chs] using this
end Go.Proofs.YtaekdnfpgkfjkaaDoor
