/- Which levels can be had, by the reference; is a text plain, by the reference. -/
import Derived.Test.YtaekdnfpgkfjkaaDoorL3
import Derived.Test.YtaekdnfpgkfjkaaDoorL2
namespace Go.Proofs.YtaekdnfpgkfjkaaDoor
open Go.RowKit
attribute [local go_sem] Oper.semAt_some

set_option maxRecDepth 100000 in
set_option maxHeartbeats 4000000 in
theorem Had_ok {w : World} {B B2 n m c1 c2 : Nat} {A A2 : Option Addr} {cs ls : List Int} {b : Int} (hR : RdInts w B .u8 A cs) (hL : RdInts w B2 .i8 A2 ls) (hn : n = cs.length) (hm : m = ls.length) (hnm : n = m) (hl : n ≤ 1099511627776) :
    Calls Tryd.prog 46 #[.slice A n c1, .int .i8 b, .slice A2 m c2] w fun e w' => e = .returned (.bool (hadO b cs ls)) ∧ w' = w := by
  subst hnm
  have HN := Lib.hid hn
  have HM := Lib.hid hm
  clear hn hm
  obtain ⟨ok, hok⟩ : ∃ o, hadO b cs ls = o := ⟨_, rfl⟩
  rw [hok]
  have HOK := Lib.hid hok
  clear hok
  go_enter Tryd.func46, Tryd.ntmps46
  go_wp2
  go_loopg [7] n (fun gk iv wr => ∃ i : Nat, i + gk = n ∧ iv = .int .i64 i ∧ hadO b cs ls = hadO b (cs.drop i) (ls.drop i) ∧ wr = w)
  case atStart => exact ⟨0, by omega, rfl, rfl, rfl⟩
  case round =>
    obtain ⟨i, hi, rfl, hho, rfl⟩ := hrel
    by_cases hin : i < n
    · have hi1 : i < cs.length := by have := HN.out; omega
      have hi2 : i < ls.length := by have := HM.out; omega
      have htr := trE_at (cs := cs) hi1
      have hha := hadO_at (b := b) (cs := cs) (ls := ls) hi1 (by have := HN.out; have := HM.out; omega)
      rw [← hho, HOK.out] at hha
      obtain ⟨b', off, rfl, hb1, hb2, k1⟩ := hR.at_ hi1
      obtain ⟨b2', off2, rfl, hb3, hb4, k2⟩ := hL.at_ hi2
      obtain ⟨c, hc⟩ : ∃ c, cs.getD i 0 = c := ⟨_, rfl⟩
      obtain ⟨l, hl⟩ : ∃ c, ls.getD i 0 = c := ⟨_, rfl⟩
      obtain ⟨e, he⟩ : ∃ c, trE (cs.drop (i + 1)) = c := ⟨_, rfl⟩
      obtain ⟨hx, hhx⟩ : ∃ c, hadO b (cs.drop (i + 1)) (ls.drop (i + 1)) = c := ⟨_, rfl⟩
      rw [hc] at k1 htr hha
      rw [hl] at k2 hha
      rw [he] at htr
      rw [htr, hhx] at hha
      have CO := fun W => base_ok W c b
      obtain ⟨o, ho⟩ : ∃ o, ownC c b = o := ⟨_, rfl⟩
      rw [ho] at CO
      have hha2 : ok = (hadC b c l (if c = 10 ∨ c = 13 then e else c == 12) && hx) := hha
      unfold hadC at hha2
      rw [ho] at hha2
      have HHA := Lib.hid hha2
      have HE := Lib.hid he
      have HHX := Lib.hid hhx
      have HHO := Lib.hid hho
      have HI := Lib.hid hi
      clear htr hha hha2 ho hc hl he hho hhx hi
      by_cases hC : c = 13 ∧ b < l ∧ l ≤ 125
      · obtain ⟨rfl, hbl, hl5⟩ := hC
        have hlb : (l != b) = true := bne_iff_ne.2 (by omega)
        have hle : (l == b) = false := by simp; omega
        have d1 : decide (b ≤ l) = true := decide_eq_true (by omega)
        have d2 : decide (l ≤ 125) = true := decide_eq_true hl5
        have hok2 : ok = (!e && hx) := by
          rw [HHA.out]
          rw [if_neg (by decide), if_pos (.inr rfl)]
          simp [hlb, hle, d1, d2]
        have HOK2 := Lib.hid hok2
        clear hok2 HHA d1 d2
        obtain ⟨W0, hW0⟩ : ∃ W0, W0 = wr := ⟨_, rfl⟩
        subst hW0
        go_wp2_with (go_at_call 62; refine (CO _).mono ?_; rintro r5 w5 ⟨rfl, rfl⟩)
        go_loopg [8] (n - (i + 1)) (fun gk2 jv wq => ∃ j : Nat, j + gk2 = n ∧ i + 1 ≤ j ∧ jv = .int .i64 j ∧ trE (cs.drop (i + 1)) = trE (cs.drop j) ∧ wq = W0)
        case atStart => exact ⟨i + 1, by omega, by omega, by go_num, rfl, rfl⟩
        case round =>
          obtain ⟨j, hj, hij, rfl, htt, rfl⟩ := hrel
          rw [HE.out] at htt
          by_cases hjn : j < n
          · have hj1 : j < cs.length := by have := HN.out; omega
            obtain ⟨b3, off3, e3, _, _, k3⟩ := hR.at_ hj1
            injection e3 with e3
            injection e3 with e4 e5
            subst e4 e5
            have htj := trE_at (cs := cs) hj1
            rw [← htt] at htj
            obtain ⟨cj, hcj⟩ : ∃ x, cs.getD j 0 = x := ⟨_, rfl⟩
            rw [hcj] at k3 htj
            have HTT := Lib.hid htt
            have HTJ := Lib.hid htj
            have HJ := Lib.hid hj
            clear hcj htt htj hj
            rcases h13 : (cj == 13) with _ | _
            · rcases h10 : (cj == 10) with _ | _
              · have hne : ¬ (cj = 10 ∨ cj = 13) := by simp at h13 h10; omega
                have hee := HTJ.out
                rw [if_neg hne] at hee
                rcases h12 : (cj == 12) with _ | _
                · rw [h12] at hee
                  subst hee
                  have hok3 : ok = hx := by rw [HOK2.out]; simp
                  clear HTJ HTT HOK2
                  go_wp2
                  go_roundg (n - (i + 1))
                  case rel => exact ⟨i + 1, by have := HI.out; omega, by go_num, by rw [HOK.out, HHX.out, hok3], rfl⟩
                  case measure => have := HI.out; omega
                · rw [h12] at hee
                  subst hee
                  have hok3 : ok = false := by rw [HOK2.out]; simp
                  subst hok3
                  clear HTJ HTT HOK2
                  go_wp2
                  go_ret
                  exact ⟨rfl, rfl⟩
              · have hne : (cj = 10 ∨ cj = 13) := by simp at h10; omega
                have hee := HTJ.out
                rw [if_pos hne] at hee
                have HEE := Lib.hid hee
                clear hee HTJ
                go_wp2
                go_roundg (n - (j + 1))
                case rel => exact ⟨j + 1, by have := HJ.out; omega, by omega, by go_num, by rw [HE.out, HEE.out], rfl⟩
                case measure => have := HJ.out; omega
            · have hne : (cj = 10 ∨ cj = 13) := by simp at h13; omega
              have hee := HTJ.out
              rw [if_pos hne] at hee
              have HEE := Lib.hid hee
              clear hee HTJ
              go_wp2
              go_roundg (n - (j + 1))
              case rel => exact ⟨j + 1, by have := HJ.out; omega, by omega, by go_num, by rw [HE.out, HEE.out], rfl⟩
              case measure => have := HJ.out; omega
          · rw [List.drop_eq_nil_of_le (by have := HN.out; omega)] at htt
            have hee : e = true := htt
            subst hee
            have hok3 : ok = false := by rw [HOK2.out]; simp
            have hjn2 : j = n := by omega
            subst hjn2
            subst hok3
            clear HOK2 htt
            go_wp2
            go_ret
            exact ⟨rfl, rfl⟩
      · obtain ⟨W0, hW0⟩ : ∃ W0, W0 = wr := ⟨_, rfl⟩
        subst hW0
        rcases o with _ | _
        all_goals go_wp2_with (go_at_call 62; refine (CO _).mono ?_; rintro r5 w5 ⟨rfl, rfl⟩)
        all_goals simp only [beq_iff_eq, beq_eq_false_iff_ne, bne_iff_ne, bne_eq_false_iff_eq, ne_eq] at *
        all_goals first
          | omega
          | (go_roundg (n - (i + 1))
             case rel =>
               refine ⟨i + 1, by have := HI.out; omega, by go_num, ?_, rfl⟩
               rw [HOK.out, HHX.out, HHA.out, Bool.eq_iff_iff]
               split <;> (try split) <;> simp <;> omega
             case measure => have := HI.out; omega)
          | (have hok0 : ok = false := by
               rw [HHA.out, Bool.eq_false_iff]
               split <;> (try split) <;> simp <;> omega
             subst hok0
             go_ret
             exact ⟨rfl, rfl⟩)
    · have hke : hadO b (cs.drop i) (ls.drop i) = true := by rw [List.drop_eq_nil_of_le (by have := HN.out; omega)]; rfl
      rw [hke, HOK.out] at hho
      subst hho
      go_wp2
      go_ret
      exact ⟨rfl, rfl⟩
end Go.Proofs.YtaekdnfpgkfjkaaDoor
