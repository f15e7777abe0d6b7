/- Step, whole: what it does is 'stepS'. -/
import Derived.Test.YtfelcmppopibcaaW7
import Derived.Test.YtfelcmppopibcaaS2
namespace Go.Proofs.Ytfelcmppopibcaa
open Go.RowKit

def StackIs (w : World) (b g : Nat) (s : SS) : Prop := IsStack w b g s.l s.i s.m s.v

/-- What Step answers and leaves. -/
def StepOut (w : World) (b g : Nat) (o : Out) (r : Ending) (w' : World) : Prop :=
  r = .returned (.tuple #[.int .i8 o.lv, .int .u8 o.cl, .bool o.k]) ∧ ∃ g', (g' = g ∨ w.heap.size ≤ g') ∧ StackIs w' b g' o.s ∧ Frm (fun k => k = b ∨ k = g) w w'

theorem step_same {w : World} {b g : Nat} {o : Out} {r : Ending} {w' : World} (h1 : r = .returned (.tuple #[.int .i8 o.lv, .int .u8 o.cl, .bool o.k])) (h2 : IsStack w' b g o.s.l o.s.i o.s.m o.s.v) (h3 : Frm (fun k => k = b ∨ k = g) w w') : StepOut w b g o r w' :=
  ⟨h1, g, .inl rfl, h2, h3⟩

theorem Step_any {w : World} {b g : Nat} {base : Int} {s : SS} (c auto : Int) (h : StackIs w b g s) (hw : WF base s) (hi : s.i ≤ 1152921504606846976) (hm : s.m ≤ 1152921504606846976) :
    Calls Try.prog 20 #[.pointer (some ⟨b, 0, none⟩), .int .u8 c, .int .i8 auto] w (StepOut w b g (stepS base s c auto)) := by
  obtain ⟨sl, si, sm, sv⟩ := s
  obtain ⟨e, l, hl⟩ := hw.ents.ne
  simp only at hl hi hm
  subst hl
  have he := hw.ents
  obtain ⟨t1, t2, t3, t4⟩ := Ents.top hw.hb he
  have hi0 := hw.i0
  have hm0 := hw.m0
  have hv0 := hw.v0
  have hvn := isos_nonneg (e :: l)
  have hvl := isos_le (e :: l)
  simp only [List.length_cons] at hvl
  simp only at hi0 hm0 hv0 he
  have hb := hw.hb
  have h : IsStack w b g (e :: l) si sm sv := h
  have hll : l.length ≤ 125 := by omega
  unfold stepS
  simp only
  by_cases c17 : c = 17
  · subst c17
    simp only [reduceIte, Int.reduceEq, embS]
    split
    · rename_i hx
      have hn := nextLv_lt true e.lv
      exact (step_emb17_yes auto h (by omega) (by omega) t2 hx.1 (by omega) (by omega)).mono fun r w' ⟨h1, g', h2, h3, h4⟩ => ⟨h1, g', h2, h3, h4⟩
    · rename_i hx
      exact (step_emb17_no auto h (by omega) t2 (by omega) hi0 hm0 hm).mono fun r w' ⟨h1, h2, h3⟩ => step_same h1 h2 h3
  rw [if_neg c17]
  by_cases c18 : c = 18
  · subst c18
    simp only [reduceIte, Int.reduceEq, embS]
    split
    · rename_i hx
      have hn := nextLv_lt true e.lv
      exact (step_emb18_yes auto h (by omega) (by omega) t2 hx.1 (by omega) (by omega)).mono fun r w' ⟨h1, g', h2, h3, h4⟩ => ⟨h1, g', h2, h3, h4⟩
    · rename_i hx
      exact (step_emb18_no auto h (by omega) t2 (by omega) hi0 hm0 hm).mono fun r w' ⟨h1, h2, h3⟩ => step_same h1 h2 h3
  rw [if_neg c18]
  by_cases c15 : c = 15
  · subst c15
    simp only [reduceIte, Int.reduceEq, embS]
    split
    · rename_i hx
      have hn := nextLv_lt false e.lv
      exact (step_emb15_yes auto h (by omega) (by omega) t2 hx.1 (by omega) (by omega)).mono fun r w' ⟨h1, g', h2, h3, h4⟩ => ⟨h1, g', h2, h3, h4⟩
    · rename_i hx
      exact (step_emb15_no auto h (by omega) t2 (by omega) hi0 hm0 hm).mono fun r w' ⟨h1, h2, h3⟩ => step_same h1 h2 h3
  rw [if_neg c15]
  by_cases c16 : c = 16
  · subst c16
    simp only [reduceIte, Int.reduceEq, embS]
    split
    · rename_i hx
      have hn := nextLv_lt false e.lv
      exact (step_emb16_yes auto h (by omega) (by omega) t2 hx.1 (by omega) (by omega)).mono fun r w' ⟨h1, g', h2, h3, h4⟩ => ⟨h1, g', h2, h3, h4⟩
    · rename_i hx
      exact (step_emb16_no auto h (by omega) t2 (by omega) hi0 hm0 hm).mono fun r w' ⟨h1, h2, h3⟩ => step_same h1 h2 h3
  rw [if_neg c16]
  by_cases c21 : c = 21
  · subst c21
    simp only [reduceIte, isoS]
    split
    · rename_i hx
      have hn := nextLv_lt true e.lv
      exact (step_iso21_yes auto h (by omega) (by omega) t2 hx.1 (by omega) (by omega) (by omega) (by omega)).mono fun r w' ⟨h1, g', h2, h3, h4⟩ => ⟨h1, g', h2, h3, h4⟩
    · rename_i hx
      exact (step_iso21_no auto h (by omega) t2 (by omega) hi0 hi).mono fun r w' ⟨h1, h2, h3⟩ => step_same h1 h2 h3
  rw [if_neg c21]
  by_cases c20 : c = 20
  · subst c20
    simp only [reduceIte, isoS]
    split
    · rename_i hx
      have hn := nextLv_lt false e.lv
      exact (step_iso20_yes auto h (by omega) (by omega) t2 hx.1 (by omega) (by omega) (by omega) (by omega)).mono fun r w' ⟨h1, g', h2, h3, h4⟩ => ⟨h1, g', h2, h3, h4⟩
    · rename_i hx
      exact (step_iso20_no auto h (by omega) t2 (by omega) hi0 hi).mono fun r w' ⟨h1, h2, h3⟩ => step_same h1 h2 h3
  rw [if_neg c20]
  by_cases c22 : c = 22
  · subst c22
    simp only [reduceIte, isoS]
    split
    · rename_i hx
      have hn := nextLv_lt (auto == 1) e.lv
      exact (step_iso22_yes auto h (by omega) (by omega) t2 hx.1 (by omega) (by omega) (by omega) (by omega)).mono fun r w' ⟨h1, g', h2, h3, h4⟩ => ⟨h1, g', h2, h3, h4⟩
    · rename_i hx
      exact (step_iso22_no auto h (by omega) t2 (by omega) hi0 hi).mono fun r w' ⟨h1, h2, h3⟩ => step_same h1 h2 h3
  rw [if_neg c22]
  by_cases c23 : c = 23
  · subst c23
    simp only [reduceIte, pdiS]
    split
    · rename_i hx
      exact (step_pdi_iso auto h hx hi).mono fun r w' ⟨h1, h2, h3⟩ => step_same h1 h2 h3
    · rename_i hx
      split
      · rename_i hy
        have hp := (Ents.popTo he (by omega)).1
        obtain ⟨e', l', hp'⟩ := hp.ne
        rw [hp']
        exact (step_pdi_val auto h (by omega) hy (by omega) (isos_pos (by omega)) hp').mono fun r w' ⟨h1, h2, h3⟩ => step_same h1 h2 h3
      · rename_i hy
        exact (step_pdi_not auto h (by omega) (by omega)).mono fun r w' ⟨h1, h2, h3⟩ => step_same h1 h2 h3
  rw [if_neg c23]
  by_cases c19 : c = 19
  · subst c19
    simp only [reduceIte, pdfS]
    split
    · rename_i hx
      exact (step_pdf_iso auto h hx).mono fun r w' ⟨h1, h2, h3⟩ => step_same h1 h2 h3
    · rename_i hx
      split
      · rename_i hy
        exact (step_pdf_emb auto h (by omega) hy hm).mono fun r w' ⟨h1, h2, h3⟩ => step_same h1 h2 h3
      · rename_i hy
        cases l with
        | nil =>
          have : (if e.iso = true then (⟨⟨[e], si, sm, sv⟩, -1, 19, false⟩ : Out) else ⟨⟨[e], si, sm, sv⟩, -1, 19, false⟩) = ⟨⟨[e], si, sm, sv⟩, -1, 19, false⟩ := by split <;> rfl
          simp only [this]
          exact (step_pdf_one auto h (by omega) (by omega)).mono fun r w' ⟨h1, h2, h3⟩ => step_same h1 h2 h3
        | cons e' l' =>
          split
          · rename_i hz
            exact (step_pdf_keep auto h (by omega) (by omega) hz).mono fun r w' ⟨h1, h2, h3⟩ => step_same h1 h2 h3
          · rename_i hz
            exact (step_pdf_off auto h (by omega) (by omega) (by simpa using hz)).mono fun r w' ⟨h1, h2, h3⟩ => step_same h1 h2 h3
  rw [if_neg c19]
  by_cases c10 : c = 10
  · subst c10
    simp only [reduceIte]
    exact (step_bn auto h).mono fun r w' ⟨h1, h2, h3⟩ => step_same h1 h2 h3
  rw [if_neg c10]
  by_cases c11 : c = 11
  · subst c11
    simp only [reduceIte]
    obtain ⟨l0, hl0⟩ := he.bottom
    rw [hl0] at h
    exact (step_b auto base h).mono fun r w' ⟨h1, h2, h3⟩ => step_same h1 h2 h3
  rw [if_neg c11]
  exact (step_oth c auto h c15 c16 c17 c18 c19 c20 c21 c22 c23 c10 c11).mono fun r w' ⟨h1, h2, h3⟩ => step_same h1 h2 h3
end Go.Proofs.Ytfelcmppopibcaa
