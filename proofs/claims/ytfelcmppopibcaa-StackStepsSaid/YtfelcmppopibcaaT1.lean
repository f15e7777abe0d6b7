/- Low bits of a signed number. -/
import Derived.Laws.BitsAll
namespace Go.Proofs.Ytfelcmppopibcaa
theorem wrap_small (n : Int) (h0 : 0 ≤ n) (h1 : n < 9223372036854775808) : IntKind.i64.wrap n = n := by
  have e : IntKind.i64.bits = 64 := rfl
  unfold IntKind.wrap
  simp only [e]
  have h2 : n % 2 ^ 64 = n := Int.emod_eq_of_lt h0 (by omega)
  rw [h2, if_neg]
  simp
  omega
theorem bits_and_low (z : Int) (j : Nat) (hj : j ≤ 62) : bits .and .i64 z ((2 ^ j - 1 : Nat) : Int) = z % ((2 ^ j : Nat) : Int) := by
  have hp : 2 ^ j ≤ 2 ^ 62 := Nat.pow_le_pow_right (by omega) hj
  have hp0 : 0 < 2 ^ j := Nat.pow_pos (by omega)
  show IntKind.i64.wrap (((BitVec.ofInt 64 z &&& BitVec.ofInt 64 ((2 ^ j - 1 : Nat) : Int)).toNat : Nat) : Int) = _
  rw [BitVec.toNat_and, BitVec.toNat_ofInt, BitVec.ofInt_natCast, BitVec.toNat_ofNat, Nat.mod_eq_of_lt (a := 2 ^ j - 1) (by omega), Nat.and_two_pow_sub_one_eq_mod]
  have hlt : (z % ((2 ^ 64 : Nat) : Int)).toNat % 2 ^ j < 2 ^ j := Nat.mod_lt _ hp0
  rw [wrap_small _ (by omega) (by omega)]
  have hz : 0 ≤ z % ((2 ^ 64 : Nat) : Int) := Int.emod_nonneg _ (by decide)
  rw [Int.natCast_emod, Int.toNat_of_nonneg hz]
  refine Int.emod_emod_of_dvd z ?_
  exact_mod_cast Nat.pow_dvd_pow 2 (show j ≤ 64 by omega)
theorem and63 (z : Int) : bits .and .i64 z 63 = z % 64 := bits_and_low z 6 (by omega)
theorem and3 (z : Int) : bits .and .i64 z 3 = z % 4 := bits_and_low z 2 (by omega)
end Go.Proofs.Ytfelcmppopibcaa
