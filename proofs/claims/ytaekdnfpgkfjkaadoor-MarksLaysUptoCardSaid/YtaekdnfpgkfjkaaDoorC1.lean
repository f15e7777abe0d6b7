/- The characters of a text: where each begins, its number, how many bytes it has. -/
import Derived.Test.YtaekdnfpgkfjkaaDoorKit2
import Derived.Lib.RuneCountTail
import Derived.Lib.QuoteLoop
import Derived.Shelf.Unicode.DecodeSlow
namespace Go.Proofs.YtaekdnfpgkfjkaaDoor
open Go.RowKit

structure Ch where
  r : Nat
  b : Nat
  n : Nat
deriving Inhabited
def chF (s : ByteArray) : Nat → Nat → List Ch
  | 0, _ => []
  | f + 1, p => if p < s.size then ⟨(Utf8.decode s p).1, p, (Utf8.decode s p).2⟩ :: chF s f (p + (Utf8.decode s p).2) else []
/-- The characters from a byte on. -/
def chA (s : ByteArray) (p : Nat) : List Ch := chF s (s.size - p) p
def chs (s : ByteArray) : List Ch := chA s 0

theorem dec_pos {s : ByteArray} {p : Nat} (h : p < s.size) : 1 ≤ (Utf8.decode s p).2 := Lib.decode_width_pos s p h
theorem tail_size (s : ByteArray) (p : Nat) : (s.extract p s.size).size = s.size - p := by
  rw [ByteArray.size_extract]; omega
theorem dec_le {s : ByteArray} {p : Nat} (h : p < s.size) : p + (Utf8.decode s p).2 ≤ s.size := by
  have h1 := Lib.width_le (s.extract p s.size) (by rw [tail_size]; omega)
  rw [Lib.tail_decode, tail_size] at h1
  have : p + 0 = p := rfl
  rw [this] at h1
  omega
theorem dec_go {s : ByteArray} {p : Nat} (h : p < s.size) : Lib.decodeGo (s.extract p s.size) = Utf8.decode s p := by
  unfold Lib.decodeGo
  rw [tail_size, if_neg (by omega), Lib.tail_decode]; rfl
theorem dec_small (s : ByteArray) (p : Nat) : (Utf8.decode s p).1 ≤ 2147483647 := decode_le s p

theorem chF_fuel (s : ByteArray) : ∀ (f p : Nat), s.size - p ≤ f → chF s f p = chA s p
  | 0, p, h => by
    unfold chA
    rw [show s.size - p = 0 by omega]
  | f + 1, p, h => by
    by_cases hp : p < s.size
    · have := dec_pos hp
      unfold chA
      obtain ⟨d, hd⟩ : ∃ d, s.size - p = d + 1 := ⟨s.size - p - 1, by omega⟩
      rw [hd]
      unfold chF
      rw [if_pos hp, if_pos hp, chF_fuel s f _ (by omega), chF_fuel s d _ (by omega)]
    · unfold chA
      rw [show s.size - p = 0 by omega]
      unfold chF
      rw [if_neg hp]
termination_by f => f
theorem chA_end {s : ByteArray} {p : Nat} (h : ¬ p < s.size) : chA s p = [] := by
  unfold chA
  rw [show s.size - p = 0 by omega]; rfl
theorem chA_go {s : ByteArray} {p : Nat} (h : p < s.size) : chA s p = ⟨(Utf8.decode s p).1, p, (Utf8.decode s p).2⟩ :: chA s (p + (Utf8.decode s p).2) := by
  have := dec_pos h
  conv => lhs; unfold chA
  obtain ⟨d, hd⟩ : ∃ d, s.size - p = d + 1 := ⟨s.size - p - 1, by omega⟩
  rw [hd]
  unfold chF
  rw [if_pos h, chF_fuel s d _ (by omega)]
theorem chA_ind {s : ByteArray} {P : Nat → Prop} (h0 : ∀ p, ¬ p < s.size → P p) (h1 : ∀ p, p < s.size → P (p + (Utf8.decode s p).2) → P p) : ∀ (d p : Nat), s.size - p ≤ d → P p
  | 0, p, h => h0 p (by omega)
  | d + 1, p, h => by
    by_cases hp : p < s.size
    · have := dec_pos hp
      exact h1 p hp (chA_ind h0 h1 d _ (by omega))
    · exact h0 p hp
theorem chA_len (s : ByteArray) : ∀ p, (chA s p).length ≤ s.size - p := fun p => by
  refine chA_ind (s := s) (P := fun p => (chA s p).length ≤ s.size - p) (fun p h => ?_) (fun p h ih => ?_) _ p (Nat.le_refl _)
  · rw [chA_end h]; simp
  · have := dec_pos h
    rw [chA_go h, List.length_cons]
    omega
theorem chs_len (s : ByteArray) : (chs s).length ≤ s.size := by have := chA_len s 0; unfold chs; omega
/-- What each is. -/
theorem chA_mem (s : ByteArray) : ∀ p, ∀ c ∈ chA s p, p ≤ c.b ∧ c.b < s.size ∧ c.r = (Utf8.decode s c.b).1 ∧ c.n = (Utf8.decode s c.b).2 ∧ 1 ≤ c.n ∧ c.b + c.n ≤ s.size := fun p => by
  refine chA_ind (s := s) (P := fun p => ∀ c ∈ chA s p, p ≤ c.b ∧ c.b < s.size ∧ c.r = (Utf8.decode s c.b).1 ∧ c.n = (Utf8.decode s c.b).2 ∧ 1 ≤ c.n ∧ c.b + c.n ≤ s.size) (fun p h => ?_) (fun p h ih => ?_) _ p (Nat.le_refl _)
  · rw [chA_end h]; intro c hc; cases hc
  · rw [chA_go h]
    intro c hc
    rcases List.mem_cons.1 hc with rfl | hc
    · exact ⟨Nat.le_refl _, h, rfl, rfl, dec_pos h, dec_le h⟩
    · have := ih c hc
      have := dec_pos h
      omega

/-- The bytes of a character. -/
def cut (s : ByteArray) (c : Ch) : List UInt8 := (s.extract c.b (c.b + c.n)).data.toList
/-- A text of bytes. -/
def txt (l : List UInt8) : ByteArray := ⟨l.toArray⟩
theorem txt_list (l : List UInt8) : (txt l).data.toList = l := by unfold txt; simp
theorem txt_of (s : ByteArray) : txt s.data.toList = s := by unfold txt; simp
theorem txt_size (l : List UInt8) : (txt l).size = l.length := by unfold txt; simp [ByteArray.size]
end Go.Proofs.YtaekdnfpgkfjkaaDoor
