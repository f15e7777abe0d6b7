/- What is laid, by both: laid and repeat walked. -/
import Derived.Test.YtaekdnfpgkfjkaaDoorS1
namespace Go.Proofs.YtaekdnfpgkfjkaaDoor
open Go.RowKit
attribute [local go_sem] Oper.semAt_some

theorem txt_cat (a b : List UInt8) : txt a ++ txt b = txt (a ++ b) := by
  apply ByteArray.ext
  unfold txt
  simp
theorem txt_nil : txt [] = ⟨#[]⟩ := rfl
def repT (p : List UInt8) : Nat → List UInt8
  | 0 => []
  | n + 1 => repT p n ++ p
theorem repT_len (p : List UInt8) : ∀ n, (repT p n).length = n * p.length
  | 0 => by simp [repT]
  | n + 1 => by unfold repT; rw [List.length_append, repT_len p n, Nat.succ_mul]
theorem bhT_rep : ∀ n, bhT n = repT (encB 8236) n
  | 0 => rfl
  | n + 1 => by unfold bhT repT; rw [bhT_rep n]

set_option maxRecDepth 100000 in
set_option maxHeartbeats 2000000 in
theorem repeat_ok {w : World} {p : List UInt8} {n : Nat} (hp : p.length ≤ 4) (hn : n ≤ 1000) : Calls Tryd.prog 47 #[.string (txt p), .int .i64 n] w fun e w' => e = .returned (.string (txt (repT p n))) ∧ w' = w := by
  go_enter Tryd.func47, Tryd.ntmps47
  go_wp2
  go_loopg [5, 6] n (fun gk sv iv wr => ∃ i : Nat, i + gk = n ∧ iv = .int .i64 i ∧ sv = .string (txt (repT p i)) ∧ wr = w)
  case atStart => exact ⟨0, by omega, rfl, rfl, rfl⟩
  case round =>
    obtain ⟨i, hi, rfl, rfl, rfl⟩ := hrel
    by_cases hin : i < n
    · have hl : (txt (repT p i)).size ≤ 4000 := by
        rw [txt_size, repT_len]
        have : i * p.length ≤ 1000 * 4 := Nat.mul_le_mul (by omega) hp
        omega
      have hl2 : (txt p).size ≤ 4 := by rw [txt_size]; exact hp
      have HC := Lib.hid (txt_cat (repT p i) p)
      go_wp2
      rw [HC.out]
      go_roundg (n - (i + 1))
      case rel => exact ⟨i + 1, by omega, by go_num, rfl, rfl⟩
      case measure => omega
    · have : i = n := by omega
      subst this
      go_wp2
      go_ret
      exact ⟨rfl, rfl⟩

set_option maxRecDepth 100000 in
set_option maxHeartbeats 4000000 in
theorem laid_ok {w : World} {b l : Int} {d : List UInt8} (hb : b = 0 ∨ b = 1) (hl : b ≤ l ∧ l ≤ 125) (hd : d.length ≤ 1099511627776) : Calls Tryd.prog 41 #[.agg #[.string (txt d), .int .i8 l], .int .i8 b] w fun e w' => e = .returned (.string (txt (laidL b (d, l)))) ∧ Aft w w' := by
  obtain ⟨W1, hW1⟩ : ∃ W1, w.alloc (.cells #[.string (txt d), .int .i8 l] 77) = W1 := ⟨_, rfl⟩
  have bW : Aft w W1 := by rw [← hW1]; exact (Aft.refl w).alloc _
  have X : Blk W1 w.heap.size 77 #[.string (txt d), .int .i8 l] := by rw [← hW1]; exact Blk.new w 77 _
  have hdz : (txt d).size ≤ 1099511627776 := by rw [txt_size]; exact hd
  obtain ⟨res, hres⟩ : ∃ x, laidL b (d, l) = x := ⟨_, rfl⟩
  rw [hres]
  have HRES := Lib.hid hres
  clear hres
  go_enter Tryd.func41, Tryd.ntmps41
  go_upto_region 1 with (fail)
  clear hW1
  obtain ⟨x0, x1, xf, xl⟩ := X.c2
  rcases he : (l == b) with _ | _
  · have hne : l ≠ b := by simpa using he
    have hlid : res = ahT b (l - b).toNat ++ d ++ bhT (l - b).toNat := HRES.out.symm.trans (if_neg hne)
    obtain ⟨n, hn⟩ : ∃ n, (l - b).toNat = n := ⟨_, rfl⟩
    have hln : l = b + n := by omega
    rw [hn] at hlid
    subst hlid
    clear hn hne HRES
    subst hln
    go_wp2
    go_loopg [6, 7, 8] n (fun gk av bv iv wr => ∃ i : Nat, i + gk = n ∧ iv = .int .i8 (b + 1 + i) ∧ av = .string (txt (ahT b i)) ∧ bv = .string (txt (bhT i)) ∧ Aft W1 wr)
    case atStart => exact ⟨0, by omega, by go_num, rfl, rfl, Aft.refl _⟩
    case round =>
      obtain ⟨i, hi, rfl, rfl, rfl, b1⟩ := hrel
      obtain ⟨y0, y1, yf, yl⟩ := (X.below b1 xl).c2
      have hz1 : (txt (ahT b i)).size ≤ 600 := by rw [txt_size]; have := ahT_len b i; omega
      have hz2 : (txt (bhT i)).size ≤ 600 := by rw [txt_size]; have := bhT_len i; omega
      by_cases hin : i < n
      · obtain ⟨k, hk⟩ : ∃ k : Int, b + 1 + (i : Int) = k := ⟨_, rfl⟩
        have hk2 : b + 1 + ((i + 1 : Nat) : Int) = k + 1 := by omega
        have hA : ahT b (i + 1) = ahT b i ++ if k % 2 = 1 then encB 8238 else encB 8237 := by rw [← hk]; rfl
        have hB : bhT (i + 1) = bhT i ++ encB 8236 := rfl
        obtain ⟨m, hm⟩ : ∃ m, k % 2 = m := ⟨_, rfl⟩
        have hm2 : m = 0 ∨ m = 1 := by omega
        have htm : Int.tmod k 2 = m := by rw [Int.tmod_eq_emod_of_nonneg (by omega)]; exact hm
        have hA2 : txt (ahT b i) ++ Utf8.encode (8237 + m) = txt (ahT b (i + 1)) := by
          rw [hA, hm, ← txt_enc, txt_cat]
          rcases hm2 with rfl | rfl
          · rfl
          · rfl
        have hB2 : txt (bhT i) ++ Utf8.encode 8236 = txt (bhT (i + 1)) := by rw [hB, ← txt_enc, txt_cat]
        have HA := Lib.hid hA2
        have HB := Lib.hid hB2
        have HK := Lib.hid hk2
        have hel := encode_size_le (8237 + m)
        have hel2 := encode_size_le 8236
        have hkk : -128 ≤ k ∧ k ≤ 126 := by omega
        have hkl : k ≤ b + n := by omega
        have HI := Lib.hid hi
        rw [hk]
        clear hA hB hA2 hB2 hk2 hm hk hi
        go_wp2_with (go_at_call 52; first
          | (refine (Encode_ok (r := 8237 + m) (by exact (Blk.new _ _ #[_]).c1.1)).mono ?_; rintro r5 w5 ⟨rfl, rfl⟩)
          | (refine (Encode_ok (r := 8236) (by exact (Blk.at_ (cs := #[_]) (by simp)).c1.1)).mono ?_; rintro r6 w6 ⟨rfl, rfl⟩))
        rw [HA.out, HB.out]
        go_roundg (n - (i + 1))
        case rel => exact ⟨i + 1, by have := HI.out; omega, by rw [HK.out], rfl, rfl, (b1.alloc _).alloc _⟩
        case measure => have := HI.out; omega
      · have : i = n := by omega
        subst this
        go_wp2
        rw [txt_cat, txt_cat]
        go_ret
        exact ⟨rfl, bW.trans b1⟩
  · have he' : l = b := by simpa using he
    subst he'
    have hlid : res = encB (8206 + l) ++ d ++ encB (8206 + l) := HRES.out.symm.trans (if_pos rfl)
    subst hlid
    clear HRES
    have hC : Utf8.encode (8206 + l) ++ txt d ++ Utf8.encode (8206 + l) = txt (encB (8206 + l) ++ d ++ encB (8206 + l)) := by rw [← txt_enc, txt_cat, txt_cat]
    have HC := Lib.hid hC
    have hel : (Utf8.encode (8206 + l)).size ≤ 4 := encode_size_le _
    clear hC
    go_wp2_with (go_at_call 52; refine (Encode_ok (r := 8206 + l) (by exact (Blk.new _ _ #[_]).c1.1)).mono ?_; rintro r5 w5 ⟨rfl, rfl⟩; obtain ⟨z0, z1, zf, zl⟩ := (X.alloc (.cells #[.int .i32 (8206 + l)] 21)).c2)
    rw [HC.out]
    go_ret
    exact ⟨rfl, bW.alloc _⟩
end Go.Proofs.YtaekdnfpgkfjkaaDoor
