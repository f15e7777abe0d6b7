/- The reference's Auto walked. -/
import Derived.Test.YtfelcmppopibcaaM1
import Derived.Test.YtfelcmppopibcaaS4
namespace Go.Proofs.Ytfelcmppopibcaa
open Go.RowKit

theorem scan_out {l m : List Int} {e : Int} {f i : Nat} (hf : l.length - i ≤ f) (h : i < l.length) (he : (i : Int) < e) : ∃ f', f = f' + 1 ∧ scan l m e f i =
    (if l.getD i 0 = 11 then 0 else if l.getD i 0 = 1 then 0 else if l.getD i 0 = 2 ∨ l.getD i 0 = 3 then 1 else if begins (l.getD i 0) = true then scan l m e f' ((m.getD i 0).toNat + 1) else scan l m e f' (i + 1)) := by
  obtain ⟨f', rfl⟩ : ∃ f', f = f' + 1 := ⟨f - 1, by omega⟩
  refine ⟨f', rfl, ?_⟩
  rw [scan]
  by_cases h11 : l.getD i 0 = 11
  · rw [if_neg (fun hh => hh.2.2 h11), if_pos h11]
  · rw [if_pos ⟨h, he, h11⟩, if_neg h11]

set_option maxRecDepth 100000 in
set_option maxHeartbeats 1000000 in
theorem rAuto_any {w : World} {B B2 : Nat} {A A2 : Option Addr} {c c2 n n2 : Nat} {l : List Int} (at_ : Nat) (hat : at_ < l.length) (hn : n = l.length) (hn2 : n2 = l.length) (h : RdInts w B .u8 A l) (h2 : RdInts w B2 .i64 A2 (matchL l)) (hl : l.length ≤ 1048576) :
    Calls Try.prog 32 #[.slice A n c, .slice A2 n2 c2, .int .i64 at_] w fun r w' => r = .returned (.int .i8 (autoRef l (matchL l) at_)) ∧ w = w' := by
  subst hn hn2
  have hm := matchL_inv l
  unfold autoRef
  generalize (mRun l.length l).2 = pile at hm
  generalize matchL l = m at hm h2 ⊢
  have hml := hm.len
  obtain ⟨b, off, rfl, hbB, hbs, hc⟩ := h.cells (by omega)
  obtain ⟨b2, off2, rfl, hbB2, hbs2, hc2⟩ := h2.cells (by omega)
  have hce := hc2 at_ (by omega)
  have hele : m.getD at_ 0 ≤ l.length := by
    rcases hm.kind at_ _ (get_getD hat) with ⟨h1, _⟩ | ⟨h1, _⟩ | ⟨y, h1, h2, h3, h4⟩ <;> rw [getD_of h1] <;> omega
  generalize m.getD at_ 0 = e at hce hele ⊢
  generalize hR : scan l m e l.length (at_ + 1) = R
  have HR := Lib.hid hR
  clear hR
  have HC := Lib.hid hc
  have HC2 := Lib.hid hc2
  have HML := Lib.hid hml
  clear hc hc2 hml
  go_enter Try.func32, Try.ntmps32
  go_wp2
  go_loopg [7] l.length (fun gk iv wr => ∃ i : Nat, iv = .int .i64 i ∧ i ≤ l.length + 1 ∧ l.length - i ≤ gk ∧ scan l m e gk i = R ∧ w = wr)
  case atStart => exact ⟨at_ + 1, by go_num, by omega, by omega, HR.out, rfl⟩
  case round =>
    obtain ⟨i, rfl, hi, hf, hs, rfl⟩ := hrel
    have HS := Lib.hid hs
    clear hs
    by_cases hil : i < l.length
    · have hci := HC.out i hil
      have hmi := HC2.out i (by have := HML.out; omega)
      by_cases hie : (i : Int) < e
      · obtain ⟨f', hf', hsc⟩ := scan_out (m := m) hf hil hie
        rw [HS.out] at hsc
        have HF := Lib.hid hf'
        clear hf'
        have hkind := Lib.hid (hm.kind i _ (get_getD hil))
        generalize hc0 : l.getD i 0 = c0 at hci hsc hkind
        generalize hm0 : m.getD i 0 = m0 at hmi hsc
        have HM0 := Lib.hid hm0
        clear hc0 hm0
        by_cases h11 : c0 = 11
        · subst h11
          rw [if_pos rfl] at hsc
          have HSC := Lib.hid hsc
          clear hsc
          go_wp2
          all_goals (go_ret; exact ⟨by rw [HSC.out]; rfl, rfl⟩)
        rw [if_neg h11] at hsc
        have x11 : (c0 != 11) = true := by simp [h11]
        by_cases h1 : c0 = 1
        · subst h1
          rw [if_pos rfl] at hsc
          have HSC := Lib.hid hsc
          clear hsc
          go_wp2
          go_ret
          exact ⟨by rw [HSC.out]; rfl, rfl⟩
        rw [if_neg h1] at hsc
        have x1 : (c0 == 1) = false := beq_eq_false_iff_ne.2 h1
        by_cases h2' : c0 = 2
        · subst h2'
          rw [if_pos (.inl rfl)] at hsc
          have HSC := Lib.hid hsc
          clear hsc
          go_wp2
          go_ret
          exact ⟨by rw [HSC.out]; rfl, rfl⟩
        by_cases h3' : c0 = 3
        · subst h3'
          rw [if_pos (.inr rfl)] at hsc
          have HSC := Lib.hid hsc
          clear hsc
          go_wp2
          go_ret
          exact ⟨by rw [HSC.out]; rfl, rfl⟩
        rw [if_neg (by omega)] at hsc
        have x2 : (c0 == 2) = false := beq_eq_false_iff_ne.2 h2'
        have x3 : (c0 == 3) = false := beq_eq_false_iff_ne.2 h3'
        by_cases hbg : begins c0 = true
        · rw [if_pos hbg] at hsc
          have hmm : ∃ y : Nat, m0 = (y : Int) ∧ i < y ∧ y ≤ l.length := by
            rcases hkind.out with ⟨_, k1⟩ | ⟨k1, _⟩ | ⟨y, k1, k2, k3, k4⟩
            · rw [k1] at hbg; cases hbg
            · have := getD_of k1; rw [HM0.out] at this; exact ⟨l.length, this, hil, Nat.le_refl _⟩
            · have := getD_of k1
              rw [HM0.out] at this
              rcases k4 with ⟨k5, _⟩ | ⟨_, k5, _⟩
              · exact ⟨y, this, k5, by omega⟩
              · rw [k5] at hbg; simp [begins] at hbg
          obtain ⟨y, rfl, hiy, hyl⟩ := hmm
          rw [Int.toNat_natCast] at hsc
          have HSC := Lib.hid hsc
          clear hsc
          rcases begins_cases hbg with rfl | rfl | rfl
          all_goals
            go_wp2
            go_roundg f'
            case rel => exact ⟨y + 1, by go_num, by omega, by have := HF.out; omega, HSC.out.symm, rfl⟩
            case measure => have := HF.out; omega
        · rw [if_neg hbg] at hsc
          have hbg' : begins c0 = false := by simpa using hbg
          have hbb : c0 ≠ 20 ∧ c0 ≠ 21 ∧ c0 ≠ 22 := by refine ⟨?_, ?_, ?_⟩ <;> (rintro rfl; simp [begins] at hbg')
          have hx20 : (c0 == 20) = false := beq_eq_false_iff_ne.2 hbb.1
          have hx21 : (c0 == 21) = false := beq_eq_false_iff_ne.2 hbb.2.1
          have hx22 : (c0 == 22) = false := beq_eq_false_iff_ne.2 hbb.2.2
          clear hbb
          have HSC := Lib.hid hsc
          clear hsc
          go_wp2
          go_roundg f'
          case rel => exact ⟨i + 1, by go_num, by omega, by have := HF.out; omega, HSC.out.symm, rfl⟩
          case measure => have := HF.out; omega
      · have h0 : R = 0 := by rw [← HS.out]; exact scan_end l m e _ _ (by omega)
        have H0 := Lib.hid h0
        clear h0
        go_wp2
        go_ret
        exact ⟨by rw [H0.out]; rfl, rfl⟩
    · have h0 : R = 0 := by rw [← HS.out]; exact scan_end l m e _ _ (by omega)
      have H0 := Lib.hid h0
      clear h0
      go_wp2
      go_ret
      exact ⟨by rw [H0.out]; rfl, rfl⟩
end Go.Proofs.Ytfelcmppopibcaa
