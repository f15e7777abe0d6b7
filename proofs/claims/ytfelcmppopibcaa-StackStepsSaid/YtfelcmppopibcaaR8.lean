/- The reference's Step, whole: what it does is 'stepS'. -/
import Derived.Test.YtfelcmppopibcaaR5
import Derived.Test.YtfelcmppopibcaaR7
import Derived.Test.YtfelcmppopibcaaS2
namespace Go.Proofs.Ytfelcmppopibcaa
open Go.RowKit

/-- A stack of the reference that holds s. -/
def RefIs (w : World) (_base : Int) (A : Option Addr) (n c : Nat) (s : SS) : Prop := n = s.l.length ∧ Reads w w.heap.size 3 A n (entCells s.l) ∧ n ≤ c
abbrev refOf (base : Int) (A : Option Addr) (n c : Nat) (s : SS) : Value := refV base A n c s.i s.m s.v
def RStepOut (w : World) (A0 : Option Addr) (base : Int) (o : Out) (r : Ending) (w' : World) : Prop :=
  ∃ A n c, r = .returned (.tuple #[refOf base A n c o.s, .int .i8 o.lv, .int .u8 o.cl, .bool o.k]) ∧ RefIs w' base A n c o.s ∧ Below w.heap.size w w' ∧ (A = A0 ∨ ∃ g, A = some ⟨g, 0, none⟩ ∧ w.heap.size ≤ g)
theorem rstep_of {w : World} {A0 : Option Addr} {base : Int} {o : Out} {r : Ending} {w' : World} (h : RefOut w A0 base o.s.l o.s.i o.s.m o.s.v o.lv o.cl o.k r w') : RStepOut w A0 base o r w' := by
  obtain ⟨A, c, h1, h2, h3, h4⟩ := h
  exact ⟨A, o.s.l.length, c, h1, ⟨rfl, h2, h3⟩, h4⟩

theorem RStep_any {w : World} {base : Int} {A : Option Addr} {n c0 : Nat} {s : SS} (c auto : Int) (h : RefIs w base A n c0 s) (hw : WF base s) (hi : s.i ≤ 1152921504606846976) (hm : s.m ≤ 1152921504606846976) :
    Calls Try.prog 27 #[refOf base A n c0 s, .int .u8 c, .int .i8 auto] w (RStepOut w A base (stepS base s c auto)) := by
  obtain ⟨sl, si, sm, sv⟩ := s
  obtain ⟨hn, h, hc0⟩ := h
  obtain ⟨e, l, hl⟩ := hw.ents.ne
  simp only at hl hi hm hn h
  subst hl
  have he := hw.ents
  obtain ⟨t1, t2, t3, t4⟩ := Ents.top hw.hb he
  have hi0 := hw.i0
  have hm0 := hw.m0
  have hv0 := hw.v0
  have hvn := isos_nonneg (e :: l)
  have hvl := isos_le (e :: l)
  simp only [List.length_cons] at hvl hn
  simp only at hi0 hm0 hv0 he
  have hb := hw.hb
  have hll : l.length ≤ 125 := by omega
  unfold stepS
  simp only
  by_cases c17 : c = 17
  · subst c17
    simp only [reduceIte, Int.reduceEq, embS]
    split
    · rename_i hx
      have hn' := nextLv_lt true e.lv
      exact (rStep17_yes (i := si) (m := sm) (v := sv) auto hn h (by omega) (by omega) t2 hx.1 hx.2.1 hx.2.2).mono fun r w' h1 => rstep_of h1
    · rename_i hx
      exact (rStep17_no (i := si) (m := sm) (v := sv) auto hn h hc0 (by omega) (by omega) t2 (show 125 < nextLv true e.lv ∨ si ≠ 0 ∨ sm ≠ 0 by omega) hm0 hm).mono fun r w' h1 => rstep_of h1
  rw [if_neg c17]
  by_cases c18 : c = 18
  · subst c18
    simp only [reduceIte, Int.reduceEq, embS]
    split
    · rename_i hx
      have hn' := nextLv_lt true e.lv
      exact (rStep18_yes (i := si) (m := sm) (v := sv) auto hn h (by omega) (by omega) t2 hx.1 hx.2.1 hx.2.2).mono fun r w' h1 => rstep_of h1
    · rename_i hx
      exact (rStep18_no (i := si) (m := sm) (v := sv) auto hn h hc0 (by omega) (by omega) t2 (show 125 < nextLv true e.lv ∨ si ≠ 0 ∨ sm ≠ 0 by omega) hm0 hm).mono fun r w' h1 => rstep_of h1
  rw [if_neg c18]
  by_cases c15 : c = 15
  · subst c15
    simp only [reduceIte, Int.reduceEq, embS]
    split
    · rename_i hx
      have hn' := nextLv_lt false e.lv
      exact (rStep15_yes (i := si) (m := sm) (v := sv) auto hn h (by omega) (by omega) t2 hx.1 hx.2.1 hx.2.2).mono fun r w' h1 => rstep_of h1
    · rename_i hx
      exact (rStep15_no (i := si) (m := sm) (v := sv) auto hn h hc0 (by omega) (by omega) t2 (show 125 < nextLv false e.lv ∨ si ≠ 0 ∨ sm ≠ 0 by omega) hm0 hm).mono fun r w' h1 => rstep_of h1
  rw [if_neg c15]
  by_cases c16 : c = 16
  · subst c16
    simp only [reduceIte, Int.reduceEq, embS]
    split
    · rename_i hx
      have hn' := nextLv_lt false e.lv
      exact (rStep16_yes (i := si) (m := sm) (v := sv) auto hn h (by omega) (by omega) t2 hx.1 hx.2.1 hx.2.2).mono fun r w' h1 => rstep_of h1
    · rename_i hx
      exact (rStep16_no (i := si) (m := sm) (v := sv) auto hn h hc0 (by omega) (by omega) t2 (show 125 < nextLv false e.lv ∨ si ≠ 0 ∨ sm ≠ 0 by omega) hm0 hm).mono fun r w' h1 => rstep_of h1
  rw [if_neg c16]
  by_cases c21 : c = 21
  · subst c21
    simp only [reduceIte, isoS]
    split
    · rename_i hx
      have hn' := nextLv_lt true e.lv
      exact (rStep21_yes (i := si) (m := sm) (v := sv) auto hn h (by omega) (by omega) t2 hx.1 hx.2.1 hx.2.2 (by omega) (by omega)).mono fun r w' h1 => rstep_of h1
    · rename_i hx
      exact (rStep21_no (i := si) (m := sm) (v := sv) auto hn h hc0 (by omega) (by omega) t2 (show 125 < nextLv true e.lv ∨ si ≠ 0 ∨ sm ≠ 0 by omega) hi0 hi).mono fun r w' h1 => rstep_of h1
  rw [if_neg c21]
  by_cases c20 : c = 20
  · subst c20
    simp only [reduceIte, isoS]
    split
    · rename_i hx
      have hn' := nextLv_lt false e.lv
      exact (rStep20_yes (i := si) (m := sm) (v := sv) auto hn h (by omega) (by omega) t2 hx.1 hx.2.1 hx.2.2 (by omega) (by omega)).mono fun r w' h1 => rstep_of h1
    · rename_i hx
      exact (rStep20_no (i := si) (m := sm) (v := sv) auto hn h hc0 (by omega) (by omega) t2 (show 125 < nextLv false e.lv ∨ si ≠ 0 ∨ sm ≠ 0 by omega) hi0 hi).mono fun r w' h1 => rstep_of h1
  rw [if_neg c20]
  by_cases c22 : c = 22
  · subst c22
    simp only [reduceIte, isoS]
    split
    · rename_i hx
      have hn' := nextLv_lt (auto == 1) e.lv
      exact (rStep22_yes (i := si) (m := sm) (v := sv) auto hn h (by omega) (by omega) t2 hx.1 hx.2.1 hx.2.2 (by omega) (by omega)).mono fun r w' h1 => rstep_of h1
    · rename_i hx
      exact (rStep22_no (i := si) (m := sm) (v := sv) auto hn h hc0 (by omega) (by omega) t2 (show 125 < nextLv (auto == 1) e.lv ∨ si ≠ 0 ∨ sm ≠ 0 by omega) hi0 hi).mono fun r w' h1 => rstep_of h1
  rw [if_neg c22]
  by_cases c23 : c = 23
  · subst c23
    simp only [reduceIte, pdiS]
    split
    · rename_i hx
      exact (rStep_pdi_iso (i := si) (m := sm) (v := sv) auto hn h hc0 (by omega) hx hi).mono fun r w' h1 => rstep_of h1
    · rename_i hx
      split
      · rename_i hy
        have hp := (Ents.popTo he (by omega)).1
        obtain ⟨e', l', hp'⟩ := hp.ne
        rw [hp']
        exact (rStep_pdi_val (i := si) (m := sm) (v := sv) auto hn h hc0 (by omega) (by omega) hy (by omega) (isos_pos (by omega)) hp').mono fun r w' h1 => rstep_of h1
      · rename_i hy
        exact (rStep_pdi_not (i := si) (m := sm) (v := sv) auto hn h hc0 (by omega) (by omega) (by omega)).mono fun r w' h1 => rstep_of h1
  rw [if_neg c23]
  by_cases c19 : c = 19
  · subst c19
    simp only [reduceIte, pdfS]
    split
    · rename_i hx
      exact (rStep_pdf_iso (i := si) (m := sm) (v := sv) auto hn h hc0 (by omega) hx).mono fun r w' h1 => rstep_of h1
    · rename_i hx
      split
      · rename_i hy
        exact (rStep_pdf_emb (i := si) (m := sm) (v := sv) auto hn h hc0 (by omega) (by omega) hy hm).mono fun r w' h1 => rstep_of h1
      · rename_i hy
        cases l with
        | nil =>
          have : (if e.iso = true then (⟨⟨[e], si, sm, sv⟩, -1, 19, false⟩ : Out) else ⟨⟨[e], si, sm, sv⟩, -1, 19, false⟩) = ⟨⟨[e], si, sm, sv⟩, -1, 19, false⟩ := by split <;> rfl
          simp only [this]
          exact (rStep_pdf_keep (i := si) (m := sm) (v := sv) auto hn h hc0 (by omega) (by omega) (by omega) (.inr rfl)).mono fun r w' h1 => rstep_of h1
        | cons e' l' =>
          split
          · rename_i hz
            exact (rStep_pdf_keep (i := si) (m := sm) (v := sv) auto hn h hc0 (by omega) (by omega) (by omega) (.inl hz)).mono fun r w' h1 => rstep_of h1
          · rename_i hz
            exact (rStep_pdf_off (i := si) (m := sm) (v := sv) auto hn h hc0 (by omega) (by omega) (by omega) (by simpa using hz) (by simp)).mono fun r w' h1 => rstep_of h1
  rw [if_neg c19]
  by_cases c10 : c = 10
  · subst c10
    simp only [reduceIte]
    exact (rStep_bn (i := si) (m := sm) (v := sv) auto hn h hc0 (by omega)).mono fun r w' h1 => rstep_of h1
  rw [if_neg c10]
  by_cases c11 : c = 11
  · subst c11
    simp only [reduceIte]
    exact (rStep_b auto hb).mono fun r w' h1 => rstep_of h1
  rw [if_neg c11]
  exact (rStep_oth (i := si) (m := sm) (v := sv) auto hn h hc0 (by omega) c c15 c16 c17 c18 c19 c20 c21 c22 c23 c10 c11).mono fun r w' h1 => rstep_of h1
end Go.Proofs.Ytfelcmppopibcaa
