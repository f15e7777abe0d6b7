/- A full stack. -/
import Derived.Test.YtfelcmppopibcaaS7
import Derived.Test.YtfelcmppopibcaaS3
namespace Go.Proofs.Ytfelcmppopibcaa

def tower : Nat → List Ent
  | 0 => [⟨0, 0, false⟩]
  | k + 1 => ⟨((k + 1 : Nat) : Int), 0, false⟩ :: tower k
theorem tower_len (k : Nat) : (tower k).length = k + 1 := by
  induction k with
  | zero => rfl
  | succ k ih => simp [tower, ih]
theorem tower_top (k : Nat) : ∃ l, tower k = ⟨(k : Int), 0, false⟩ :: l := by
  cases k with
  | zero => exact ⟨[], rfl⟩
  | succ k => exact ⟨tower k, rfl⟩
theorem tower_ents : ∀ k : Nat, k ≤ 125 → Ents 0 (tower k)
  | 0, _ => rfl
  | k + 1, h => by
    obtain ⟨l, hl⟩ := tower_top k
    have ih := tower_ents k (by omega)
    unfold tower
    rw [hl] at ih ⊢
    exact ⟨by show (k : Int) < ((k + 1 : Nat) : Int); omega, by show ((k + 1 : Nat) : Int) ≤ 125; omega, .inl rfl, ih⟩
theorem tower_isos : ∀ k : Nat, isos (tower k) = 0
  | 0 => rfl
  | k + 1 => by simp [tower, isos, tower_isos k]
theorem tower_wf {k : Nat} (hk : k ≤ 125) {i : Int} (hi : 0 ≤ i) : WF 0 ⟨tower k, i, 0, 0⟩ := ⟨.inl rfl, tower_ents k hk, hi, by simp, by simp [tower_isos]⟩

theorem tower_up {k : Nat} (hk : k < 125) (c : Int) (hc : c = if k % 2 = 0 then 17 else 15) : stepS 0 ⟨tower k, 0, 0, 0⟩ c 0 = ⟨⟨tower (k + 1), 0, 0, 0⟩, -1, c, false⟩ := by
  obtain ⟨l, hl⟩ := tower_top k
  subst hc
  by_cases h : k % 2 = 0
  · have hn : nextLv true (k : Int) = ((k + 1 : Nat) : Int) := by
      unfold nextLv
      rw [if_pos (by simp; omega)]
      push_cast
      rfl
    simp only [h, if_true, stepS, hl, embS, hn]
    have hk1 : ((k + 1 : Nat) : Int) ≤ 125 := by omega
    rw [if_pos (by simp only [hk1, and_self])]
    simp [tower, hl]
  · have hn : nextLv false (k : Int) = ((k + 1 : Nat) : Int) := by
      unfold nextLv
      rw [if_pos (by simp; omega)]
      push_cast
      rfl
    simp only [h, if_false, stepS, hl, embS, hn, Int.reduceEq]
    have hk1 : ((k + 1 : Nat) : Int) ≤ 125 := by omega
    simp [tower, hl]
    omega

theorem full_iso {c : Int} (hc : begins c = true) {i : Int} (auto : Int) : stepS 0 ⟨tower 125, i, 0, 0⟩ c auto = ⟨⟨tower 125, i + 1, 0, 0⟩, 125, c, true⟩ := by
  obtain ⟨l, hl⟩ := tower_top 125
  have hn : ∀ odd, ¬ (nextLv odd ((125 : Nat) : Int) ≤ 125 ∧ i = 0 ∧ (0 : Int) = 0) := by
    intro odd h
    have := (nextLv_lt odd ((125 : Nat) : Int)).1
    omega
  have hp : c = 20 ∨ c = 21 ∨ c = 22 := by
    simp only [begins, Bool.or_eq_true, beq_iff_eq] at hc
    omega
  have hpc : plainCls c 0 = c := by
    unfold plainCls
    rw [if_neg (by simp), if_neg (by omega)]
  rcases hp with rfl | rfl | rfl
  · simp only [stepS, hl, isoS, Int.reduceEq, if_false, if_true]
    rw [if_neg (by intro h; exact hn _ ⟨h.1, h.2.1, rfl⟩), hpc]
    rfl
  · simp only [stepS, hl, isoS, Int.reduceEq, if_false, if_true]
    rw [if_neg (by intro h; exact hn _ ⟨h.1, h.2.1, rfl⟩), hpc]
    rfl
  · simp only [stepS, hl, isoS, Int.reduceEq, if_false, if_true]
    rw [if_neg (by intro h; exact hn _ ⟨h.1, h.2.1, rfl⟩), hpc]
    rfl

/-- While isolates are over, nothing else moves. -/
theorem full_other {c : Int} (h23 : c ≠ 23) (h11 : c ≠ 11) (hb : begins c = false) {i : Int} (hi : 0 < i) (auto : Int) :
    ∃ lv cl k, stepS 0 ⟨tower 125, i, 0, 0⟩ c auto = ⟨⟨tower 125, i, 0, 0⟩, lv, cl, k⟩ ∧ (k = false ∨ (k = true ∧ lv = 125)) := by
  obtain ⟨l, hl⟩ := tower_top 125
  have hb3 : c ≠ 20 ∧ c ≠ 21 ∧ c ≠ 22 := by refine ⟨?_, ?_, ?_⟩ <;> (rintro rfl; simp [begins] at hb)
  have hemb : ∀ odd ov, embS c ⟨tower 125, i, 0, 0⟩ ⟨((125 : Nat) : Int), 0, false⟩ odd ov = ⟨⟨tower 125, i, 0, 0⟩, -1, c, false⟩ := by
    intro odd ov
    unfold embS
    rw [if_neg (by intro h; have := h.2.1; simp only at this; omega)]
    simp only
    rw [if_neg (by omega)]
  unfold stepS
  simp only [hl]
  rw [← hl]
  by_cases c17 : c = 17
  · rw [if_pos c17, hemb]; exact ⟨_, _, _, rfl, .inl rfl⟩
  rw [if_neg c17]
  by_cases c18 : c = 18
  · rw [if_pos c18, hemb]; exact ⟨_, _, _, rfl, .inl rfl⟩
  rw [if_neg c18]
  by_cases c15 : c = 15
  · rw [if_pos c15, hemb]; exact ⟨_, _, _, rfl, .inl rfl⟩
  rw [if_neg c15]
  by_cases c16 : c = 16
  · rw [if_pos c16, hemb]; exact ⟨_, _, _, rfl, .inl rfl⟩
  rw [if_neg c16, if_neg hb3.2.1, if_neg hb3.1, if_neg hb3.2.2, if_neg h23]
  by_cases c19 : c = 19
  · rw [if_pos c19]
    unfold pdfS
    simp only
    rw [if_pos hi]
    exact ⟨_, _, _, rfl, .inl rfl⟩
  rw [if_neg c19]
  by_cases c10 : c = 10
  · rw [if_pos c10]; exact ⟨_, _, _, rfl, .inl rfl⟩
  rw [if_neg c10, if_neg h11]
  exact ⟨_, _, _, rfl, .inr ⟨rfl, rfl⟩⟩

theorem full_pdi {i : Int} (hi : 0 < i) (auto : Int) : stepS 0 ⟨tower 125, i, 0, 0⟩ 23 auto = ⟨⟨tower 125, i - 1, 0, 0⟩, 125, 23, true⟩ := by
  obtain ⟨l, hl⟩ := tower_top 125
  simp only [stepS, hl, pdiS, Int.reduceEq, if_false, if_true, hi]
  rfl
theorem full_r (auto : Int) : stepS 0 ⟨tower 125, 0, 0, 0⟩ 2 auto = ⟨⟨tower 125, 0, 0, 0⟩, 125, 2, true⟩ := by
  obtain ⟨l, hl⟩ := tower_top 125
  simp only [stepS, hl, Int.reduceEq, if_false]
  rfl
theorem full_pdf (auto : Int) : stepS 0 ⟨tower 125, 0, 0, 0⟩ 19 auto = ⟨⟨tower 124, 0, 0, 0⟩, -1, 19, false⟩ := by
  obtain ⟨l, hl⟩ := tower_top 124
  have h5 : tower 125 = ⟨((125 : Nat) : Int), 0, false⟩ :: tower 124 := rfl
  rw [h5, hl]
  simp only [stepS, pdfS, Int.reduceEq, if_false, if_true]
  rfl
end Go.Proofs.Ytfelcmppopibcaa
