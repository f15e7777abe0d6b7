/- Pieces put together anew: the same pieces, or fewer bad bytes. -/
import Derived.Test.YtaekdnfpgkfjkaaDoorU1
namespace Go.Proofs.YtaekdnfpgkfjkaaDoor
open Go.Lib

abbrev Pc := Nat × List UInt8
def badP (p : Pc) : Bool := p.1 == 65533 && p.2.length == 1
def GoodP (p : Pc) : Prop := p.2 ≠ [] ∧ badP p = false ∧ gn p.2 0 / 64 ≠ 2 ∧ ∀ rest, dcl (p.2 ++ rest) = (p.1, p.2.length)
def OkP (p : Pc) : Prop := badP p = true ∨ GoodP p
def byP (P : List Pc) : List UInt8 := P.flatMap (·.2)
def bdn : List Pc → Nat
  | [] => 0
  | p :: P => (if badP p = true then 1 else 0) + bdn P
def nbP (p : Pc) : Nat := if p.1 = 8236 ∨ p.1 = 8297 then 0 else p.2.length
def nbn : List Pc → Nat
  | [] => 0
  | p :: P => nbP p + nbn P

theorem gn_app {a b : List UInt8} {i : Nat} (h : i < a.length) : gn (a ++ b) i = gn a i := by
  unfold gn
  rw [List.getD_eq_getElem?_getD, List.getElem?_append_left h, List.getD_eq_getElem?_getD]
theorem gn_take {l : List UInt8} {n i : Nat} (h : i < n) : gn (l.take n) i = gn l i := by
  unfold gn
  rw [List.getD_eq_getElem?_getD, List.getElem?_take_of_lt h, List.getD_eq_getElem?_getD]
theorem gn_lt (l : List UInt8) (i : Nat) : gn l i < 256 := UInt8.toNat_lt _

/-- What the first character's bytes are. -/
theorem dcl_shape (l : List UInt8) (h : l ≠ []) : (dcl l = (65533, 1)) ∨ (dcl l = (gn l 0, 1) ∧ gn l 0 < 128) ∨ (2 ≤ (dcl l).2 ∧ (dcl l).2 ≤ l.length ∧ 192 ≤ gn l 0 ∧ ∀ i, 1 ≤ i → i < (dcl l).2 → gn l i / 64 = 2) := by
  have h0 : 0 < l.length := by rcases l with _ | _ <;> simp_all
  unfold dcl
  generalize hg1 : gn l 1 = b1
  generalize hg2 : gn l 2 = b2
  generalize hg3 : gn l 3 = b3
  generalize hg0 : gn l 0 = b0
  unfold decodeN
  split
  · exact .inr (.inl ⟨rfl, by assumption⟩)
  split
  · rename_i h1 h2
    split
    · refine .inr (.inr ⟨by simp, by simp; omega, by omega, fun i hi hi2 => ?_⟩)
      have : i = 1 := by simp at hi2; omega
      subst this; rw [hg1]; exact h2.2.2
    · exact .inl rfl
  split
  · rename_i h1 h2 h3
    split
    · refine .inr (.inr ⟨by simp, by simp; omega, by omega, fun i hi hi2 => ?_⟩)
      have : i = 1 ∨ i = 2 := by simp at hi2; omega
      rcases this with rfl | rfl
      · rw [hg1]; exact h3.2.1.2
      · rw [hg2]; exact h3.2.2.2
    · exact .inl rfl
  split
  · rename_i h1 h2 h3 h4
    split
    · refine .inr (.inr ⟨by simp, by simp; omega, by omega, fun i hi hi2 => ?_⟩)
      have : i = 1 ∨ i = 2 ∨ i = 3 := by simp at hi2; omega
      rcases this with rfl | rfl | rfl
      · rw [hg1]; exact h4.2.1.2
      · rw [hg2]; exact h4.2.2.1.2
      · rw [hg3]; exact h4.2.2.2.2
    · exact .inl rfl
  · exact .inl rfl

/-- A right character is told by its own bytes. -/
theorem dcl_local {l l' : List UInt8} (h : dcl l ≠ (65533, 1)) (hl : ∀ i, i < (dcl l).2 → gn l' i = gn l i) (hn : (dcl l).2 ≤ l'.length) : dcl l' = dcl l := by
  unfold dcl at *
  generalize hg0 : gn l 0 = b0 at *
  generalize hg1 : gn l 1 = b1 at *
  generalize hg2 : gn l 2 = b2 at *
  generalize hg3 : gn l 3 = b3 at *
  generalize l.length = n at *
  generalize l'.length = n' at *
  have e0 : gn l' 0 = b0 := by
    rw [hl 0 (by have : 1 ≤ (decodeN n b0 b1 b2 b3).2 := by unfold decodeN; (repeat' split) <;> simp
                 omega), hg0]
  rw [e0]
  unfold decodeN at h hl hn ⊢
  by_cases c0 : b0 < 128
  · rw [if_pos c0, if_pos c0]
  rw [if_neg c0] at h hl hn ⊢
  rw [if_neg c0]
  by_cases c1 : b0 / 32 = 6 ∧ (1 < n ∧ b1 / 64 = 2)
  · rw [if_pos c1] at h hl hn ⊢
    by_cases d : b0 % 32 * 64 + b1 % 64 ≥ 128
    · rw [if_pos d] at h hl hn ⊢
      have e1 : gn l' 1 = b1 := by rw [hl 1 (by simp), hg1]
      have hn : 2 ≤ n' := hn
      rw [e1, if_pos ⟨c1.1, by omega, c1.2.2⟩, if_pos d]
    · rw [if_neg d] at h; exact absurd rfl h
  rw [if_neg c1] at h hl hn ⊢
  by_cases c2 : b0 / 16 = 14 ∧ (1 < n ∧ b1 / 64 = 2) ∧ (2 < n ∧ b2 / 64 = 2)
  · rw [if_pos c2] at h hl hn ⊢
    split at h
    · rename_i d
      rw [if_pos d] at hl hn ⊢
      have e1 : gn l' 1 = b1 := by rw [hl 1 (by simp), hg1]
      have e2 : gn l' 2 = b2 := by rw [hl 2 (by simp), hg2]
      have hn : 3 ≤ n' := hn
      rw [e1, e2, if_neg (by omega), if_pos ⟨c2.1, ⟨by omega, c2.2.1.2⟩, ⟨by omega, c2.2.2.2⟩⟩, if_pos d]
    · exact absurd rfl h
  rw [if_neg c2] at h hl hn ⊢
  by_cases c3 : b0 / 8 = 30 ∧ (1 < n ∧ b1 / 64 = 2) ∧ (2 < n ∧ b2 / 64 = 2) ∧ (3 < n ∧ b3 / 64 = 2)
  · rw [if_pos c3] at h hl hn ⊢
    split at h
    · rename_i d
      rw [if_pos d] at hl hn ⊢
      have e1 : gn l' 1 = b1 := by rw [hl 1 (by simp), hg1]
      have e2 : gn l' 2 = b2 := by rw [hl 2 (by simp), hg2]
      have e3 : gn l' 3 = b3 := by rw [hl 3 (by simp), hg3]
      have hn : 4 ≤ n' := hn
      rw [e1, e2, e3, if_neg (by omega), if_neg (by omega), if_pos ⟨c3.1, ⟨by omega, c3.2.1.2⟩, ⟨by omega, c3.2.2.1.2⟩, ⟨by omega, c3.2.2.2.2⟩⟩, if_pos d]
    · exact absurd rfl h
  · rw [if_neg c3] at h; exact absurd rfl h

theorem byP_cons (p : Pc) (P : List Pc) : byP (p :: P) = p.2 ++ byP P := rfl
theorem badP_iff {p : Pc} : badP p = true ↔ p.1 = 65533 ∧ p.2.length = 1 := by unfold badP; simp
/-- What decode cuts off is right, or one bad byte. -/
theorem head_ok {l : List UInt8} (h : l ≠ []) : OkP ((dcl l).1, l.take (dcl l).2) := by
  have hp := dcl_pos l
  have hle := dcl_le h
  by_cases hb : dcl l = (65533, 1)
  · left
    rw [badP_iff, hb]
    simp only [hb] at hle
    exact ⟨rfl, by simp; omega⟩
  · right
    have hlen : (l.take (dcl l).2).length = (dcl l).2 := by rw [List.length_take]; omega
    refine ⟨fun e => ?_, ?_, ?_, fun rest => ?_⟩
    · have := congrArg List.length e
      simp only at this
      rw [hlen] at this
      simp at this; omega
    · rcases hq : badP ((dcl l).1, l.take (dcl l).2) with _ | _
      · rfl
      · have := badP_iff.1 hq
        simp only [hlen] at this
        exact absurd (Prod.ext this.1 this.2) hb
    · show gn (l.take (dcl l).2) 0 / 64 ≠ 2
      rw [gn_take (by omega)]
      rcases dcl_shape l h with e | ⟨_, e⟩ | ⟨_, _, e, _⟩
      · exact absurd e hb
      · omega
      · have := gn_lt l 0; omega
    · show dcl (l.take (dcl l).2 ++ rest) = ((dcl l).1, (l.take (dcl l).2).length)
      rw [hlen]
      refine dcl_local hb (fun i hi => ?_) (by rw [List.length_append, hlen]; omega)
      rw [gn_app (by rw [hlen]; exact hi), gn_take hi]
theorem pl_ind {Q : List UInt8 → Prop} (h0 : Q []) (h1 : ∀ l, l ≠ [] → Q (l.drop (dcl l).2) → Q l) : ∀ (n : Nat) (l : List UInt8), l.length ≤ n → Q l
  | 0, l, h => by
    have : l = [] := List.eq_nil_of_length_eq_zero (by omega)
    subst this; exact h0
  | n + 1, l, h => by
    by_cases he : l = []
    · subst he; exact h0
    · have hp := dcl_pos l
      have hl : 0 < l.length := by rcases l with _ | _ <;> simp_all
      exact h1 l he (pl_ind h0 h1 n _ (by rw [List.length_drop]; omega))
theorem pl_ok (l : List UInt8) : ∀ p ∈ pl l, OkP p := by
  refine pl_ind (Q := fun l => ∀ p ∈ pl l, OkP p) (fun p hp => by cases hp) (fun l h ih p hp => ?_) l.length l (Nat.le_refl _)
  rw [pl_go h] at hp
  rcases List.mem_cons.1 hp with rfl | hp
  · exact head_ok h
  · exact ih p hp
theorem pl_by (l : List UInt8) : byP (pl l) = l := by
  refine pl_ind (Q := fun l => byP (pl l) = l) rfl (fun l h ih => ?_) l.length l (Nat.le_refl _)
  rw [pl_go h, byP_cons, ih]
  exact List.take_append_drop _ _
/-- Bytes that go on, ahead of pieces: they are bad pieces. -/
theorem cont_bad : ∀ (m : Nat) (P : List Pc), (∀ p ∈ P, OkP p) → m ≤ (byP P).length → (∀ i, i < m → gn (byP P) i / 64 = 2) → ∃ P', byP P' = (byP P).drop m ∧ (∀ p ∈ P', OkP p) ∧ bdn P' + m ≤ bdn P ∧ nbn P' + m ≤ nbn P ∧ P'.length ≤ P.length
  | 0, P, hP, _, _ => ⟨P, by simp, hP, by omega, by omega, Nat.le_refl _⟩
  | m + 1, [], _, hm, _ => by simp [byP] at hm
  | m + 1, p :: P, hP, hm, hc => by
    have hp := hP p List.mem_cons_self
    have hP2 : ∀ q ∈ P, OkP q := fun q hq => hP q (List.mem_cons_of_mem _ hq)
    rcases hp with hb | hg
    · obtain ⟨h1, h2⟩ := badP_iff.1 hb
      have e : byP (p :: P) = p.2 ++ byP P := rfl
      obtain ⟨P', q1, q2, q3, q4, q5⟩ := cont_bad m P hP2 (by rw [e, List.length_append, h2] at hm; omega) (fun i hi => by
        have := hc (i + 1) (by omega)
        rw [e] at this
        rw [← this]
        congr 1
        unfold gn
        rw [List.getD_eq_getElem?_getD, List.getD_eq_getElem?_getD, List.getElem?_append_right (by omega), h2, Nat.add_sub_cancel])
      refine ⟨P', ?_, q2, ?_, ?_, by simp; omega⟩
      · rw [q1, e]
        obtain ⟨x, hx⟩ := List.length_eq_one_iff.1 h2
        rw [hx]; rfl
      · have : bdn (p :: P) = 1 + bdn P := by show (if badP p = true then 1 else 0) + bdn P = _; rw [if_pos hb]
        omega
      · have : nbn (p :: P) = 1 + nbn P := by show nbP p + nbn P = _; unfold nbP; rw [if_neg (by rw [h1]; omega), h2]
        omega
    · exfalso
      have := hc 0 (by omega)
      rw [byP_cons, gn_app (by rcases h : p.2 with _ | _; exact absurd h hg.1; simp)] at this
      exact hg.2.2.1 this
/-- Pieces put together: the same pieces again, or fewer bad ones; and no more bytes that end nothing. -/
theorem rejoin : ∀ (n : Nat) (P : List Pc), P.length ≤ n → (∀ p ∈ P, OkP p) → (pl (byP P) = P ∨ bdn (pl (byP P)) < bdn P) ∧ nbn (pl (byP P)) ≤ nbn P
  | _, [], _, _ => ⟨.inl rfl, Nat.le_refl _⟩
  | 0, p :: P, h, _ => by simp at h
  | n + 1, p :: P, h, hP => by
    have hp := hP p List.mem_cons_self
    have hP2 : ∀ q ∈ P, OkP q := fun q hq => hP q (List.mem_cons_of_mem _ hq)
    have ih := rejoin n P (by simpa using h) hP2
    have e : byP (p :: P) = p.2 ++ byP P := rfl
    have same : dcl (byP (p :: P)) = (p.1, p.2.length) → p.2 ≠ [] → (pl (byP (p :: P)) = p :: P ∨ bdn (pl (byP (p :: P))) < bdn (p :: P)) ∧ nbn (pl (byP (p :: P))) ≤ nbn (p :: P) := fun hd hne => by
      have hl : byP (p :: P) ≠ [] := fun h0 => by rw [e] at h0; exact hne (List.append_eq_nil_iff.1 h0).1
      have hgo := pl_go hl
      rw [hd] at hgo
      have h1 : (byP (p :: P)).take p.2.length = p.2 := by rw [e, List.take_left']; rfl
      have h2 : (byP (p :: P)).drop p.2.length = byP P := by rw [e, List.drop_left']; rfl
      simp only [h1, h2] at hgo
      rw [hgo]
      refine ⟨?_, ?_⟩
      · rcases ih.1 with i1 | i1
        · left; rw [i1]
        · right; unfold bdn; show _ + _ < _ + _; exact Nat.add_lt_add_left i1 _
      · unfold nbn; exact Nat.add_le_add_left ih.2 _
    rcases hp with hb | hg
    · obtain ⟨h1, h2⟩ := badP_iff.1 hb
      have hne : p.2 ≠ [] := fun h0 => by rw [h0] at h2; cases h2
      have hl : byP (p :: P) ≠ [] := fun h0 => by rw [e] at h0; exact hne (List.append_eq_nil_iff.1 h0).1
      have hle : bdn (pl (byP P)) ≤ bdn P := by
        rcases ih.1 with i1 | i1
        · rw [i1]; exact Nat.le_refl _
        · omega
      have hbd : bdn (p :: P) = 1 + bdn P := by show (if badP p = true then 1 else 0) + bdn P = _; rw [if_pos hb]
      have hnb : nbn (p :: P) = 1 + nbn P := by show nbP p + nbn P = _; unfold nbP; rw [if_neg (by rw [h1]; omega), h2]
      rcases dcl_shape _ hl with d | ⟨d, d2⟩ | ⟨d1, d2, d3, d4⟩
      · exact same (by rw [d, h1, h2]) hne
      · have hgo := pl_go hl
        rw [d] at hgo
        have k1 : (byP (p :: P)).take 1 = p.2 := by rw [e, ← h2, List.take_left']; rfl
        have k2 : (byP (p :: P)).drop 1 = byP P := by rw [e, ← h2, List.drop_left']; rfl
        simp only [k1, k2] at hgo
        rw [hgo, hbd, hnb]
        refine ⟨.inr ?_, ?_⟩
        · show (if badP _ = true then 1 else 0) + _ < _
          rw [if_neg (by rw [badP_iff]; intro hh; have := hh.1; simp only at this; omega)]
          omega
        · show nbP _ + _ ≤ _
          have : nbP (gn (byP (p :: P)) 0, p.2) ≤ 1 := by
            unfold nbP
            split
            · omega
            · exact Nat.le_of_eq h2
          omega
      · obtain ⟨m, hm⟩ : ∃ m, (dcl (byP (p :: P))).2 = m + 1 := ⟨(dcl (byP (p :: P))).2 - 1, by omega⟩
        have hlen : (byP (p :: P)).length = 1 + (byP P).length := by rw [e, List.length_append, h2]
        obtain ⟨P', q1, q2, q3, q4, q5⟩ := cont_bad m P hP2 (by omega) (fun i hi => by
          have := d4 (i + 1) (by omega) (by omega)
          rw [e] at this
          rw [← this]
          congr 1
          unfold gn
          rw [List.getD_eq_getElem?_getD, List.getD_eq_getElem?_getD, List.getElem?_append_right (by omega), h2, Nat.add_sub_cancel])
        have ih2 := rejoin n P' (by have : P.length ≤ n := by simpa using h
                                    omega) q2
        have hgo := pl_go hl
        have k2 : (byP (p :: P)).drop (dcl (byP (p :: P))).2 = byP P' := by
          rw [q1, hm, e]
          obtain ⟨x, hx⟩ := List.length_eq_one_iff.1 h2
          rw [hx]; rfl
        rw [k2] at hgo
        have hle2 : bdn (pl (byP P')) ≤ bdn P' := by
          rcases ih2.1 with i1 | i1
          · rw [i1]; exact Nat.le_refl _
          · omega
        have htl : ((byP (p :: P)).take (dcl (byP (p :: P))).2).length = m + 1 := by rw [List.length_take]; omega
        rw [hgo, hbd, hnb]
        refine ⟨.inr ?_, ?_⟩
        · show (if badP _ = true then 1 else 0) + _ < _
          rw [if_neg (by rw [badP_iff]; intro hh; have := hh.2; simp only at this; omega)]
          omega
        · show nbP _ + _ ≤ _
          have h3 := ih2.2
          have : nbP ((dcl (byP (p :: P))).1, (byP (p :: P)).take (dcl (byP (p :: P))).2) ≤ m + 1 := by
            unfold nbP
            split
            · omega
            · exact Nat.le_of_eq htl
          omega
    · exact same (by rw [e]; exact hg.2.2.2 _) hg.1
end Go.Proofs.YtaekdnfpgkfjkaaDoor
