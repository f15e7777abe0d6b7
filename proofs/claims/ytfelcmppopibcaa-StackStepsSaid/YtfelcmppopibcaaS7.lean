/- What a step may answer. -/
import Derived.Test.YtfelcmppopibcaaS5
namespace Go.Proofs.Ytfelcmppopibcaa

def goneC (c : Int) : Bool := c == 15 || c == 16 || c == 17 || c == 18 || c == 19 || c == 10

theorem isos_lt {base : Int} : ∀ {l : List Ent}, Ents base l → isos l + 1 ≤ l.length
  | [], h => h.elim
  | [e], h => by
    simp only [Ents] at h
    subst h
    simp [isos]
  | e :: e' :: l, h => by
    have ih := isos_lt h.tail
    simp only [isos, List.length_cons] at ih ⊢
    push_cast
    split <;> omega

structure OutOk (base : Int) (c : Int) (o : Out) : Prop where
  kind : (goneC c = true ∧ o.k = false ∧ o.lv = -1) ∨ (goneC c = false ∧ o.k = true ∧ base ≤ o.lv ∧ o.lv ≤ 125)
  cl : 1 ≤ o.cl ∧ o.cl ≤ 23

theorem plainCls_ok {c ov : Int} (h : ov = 0 ∨ ov = 1 ∨ ov = 2) : 1 ≤ plainCls c ov ∧ plainCls c ov ≤ 23 := by
  unfold plainCls
  split
  · omega
  · split <;> omega

set_option maxHeartbeats 1000000 in
theorem stepS_ok {base : Int} {s : SS} (h : WF base s) (c auto : Int) : OutOk base c (stepS base s c auto) := by
  obtain ⟨e, l, hl⟩ := h.ents.ne
  have he := h.ents
  rw [hl] at he
  obtain ⟨t1, t2, t3, t4⟩ := Ents.top h.hb he
  have hb := h.hb
  have gone : ∀ (o : Out), goneC c = true → o.k = false → o.lv = -1 → o.cl = c → OutOk base c o := by
    intro o h1 h2 h3 h4
    refine ⟨.inl ⟨h1, h2, h3⟩, ?_⟩
    rw [h4]
    simp only [goneC, Bool.or_eq_true, beq_iff_eq] at h1
    omega
  have stay : ∀ (o : Out) (x : Ent), goneC c = false → o.k = true → o.lv = x.lv → base ≤ x.lv → x.lv ≤ 125 → (x.ov = 0 ∨ x.ov = 1 ∨ x.ov = 2) → (∃ d, o.cl = plainCls d x.ov) → OutOk base c o := by
    intro o x h1 h2 h3 h4 h5 h6 h7
    obtain ⟨d, h7⟩ := h7
    exact ⟨.inr ⟨h1, h2, by omega, by omega⟩, by rw [h7]; exact plainCls_ok h6⟩
  unfold stepS
  rw [hl]
  simp only
  by_cases c17 : c = 17
  · subst c17; rw [if_pos rfl]; unfold embS; split <;> exact gone _ rfl rfl rfl rfl
  rw [if_neg c17]
  by_cases c18 : c = 18
  · subst c18; rw [if_pos rfl]; unfold embS; split <;> exact gone _ rfl rfl rfl rfl
  rw [if_neg c18]
  by_cases c15 : c = 15
  · subst c15; rw [if_pos rfl]; unfold embS; split <;> exact gone _ rfl rfl rfl rfl
  rw [if_neg c15]
  by_cases c16 : c = 16
  · subst c16; rw [if_pos rfl]; unfold embS; split <;> exact gone _ rfl rfl rfl rfl
  rw [if_neg c16]
  by_cases c21 : c = 21
  · subst c21; rw [if_pos rfl]; unfold isoS; split <;> exact stay _ e rfl rfl rfl t1 t2 t4 ⟨_, rfl⟩
  rw [if_neg c21]
  by_cases c20 : c = 20
  · subst c20; rw [if_pos rfl]; unfold isoS; split <;> exact stay _ e rfl rfl rfl t1 t2 t4 ⟨_, rfl⟩
  rw [if_neg c20]
  by_cases c22 : c = 22
  · subst c22; rw [if_pos rfl]; unfold isoS; split <;> exact stay _ e rfl rfl rfl t1 t2 t4 ⟨_, rfl⟩
  rw [if_neg c22]
  by_cases c23 : c = 23
  · subst c23; rw [if_pos rfl]; unfold pdiS
    split
    · exact stay _ e rfl rfl rfl t1 t2 t4 ⟨_, rfl⟩
    · split
      · rename_i h2
        rw [h.v0] at h2
        obtain ⟨k1, k2⟩ := h.ents.popTo h2
        obtain ⟨e', l', hp⟩ := k1.ne
        rw [hp] at k1
        obtain ⟨u1, u2, _, u4⟩ := Ents.top h.hb k1
        rw [hp]
        exact stay _ e' rfl rfl rfl u1 u2 u4 ⟨_, rfl⟩
      · exact stay _ e rfl rfl rfl t1 t2 t4 ⟨_, rfl⟩
  rw [if_neg c23]
  by_cases c19 : c = 19
  · subst c19; rw [if_pos rfl]; unfold pdfS
    repeat' split
    all_goals exact gone _ rfl rfl rfl rfl
  rw [if_neg c19]
  by_cases c10 : c = 10
  · subst c10; rw [if_pos rfl]; exact gone _ rfl rfl rfl rfl
  rw [if_neg c10]
  by_cases c11 : c = 11
  · subst c11; rw [if_pos rfl]
    exact ⟨.inr ⟨rfl, rfl, Int.le_refl _, by show base ≤ 125; omega⟩, by simp⟩
  rw [if_neg c11]
  refine stay _ e ?_ rfl rfl t1 t2 t4 ⟨_, rfl⟩
  simp [goneC, c15, c16, c17, c18, c19, c10]
end Go.Proofs.Ytfelcmppopibcaa
