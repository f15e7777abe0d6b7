/- A pass of Close on pieces: what it writes it would write again. -/
import Derived.Test.YtaekdnfpgkfjkaaDoorU2
import Derived.Test.YtaekdnfpgkfjkaaDoorK3
namespace Go.Proofs.YtaekdnfpgkfjkaaDoor
open Go.Lib

def cpc (x : Int) : Pc := (x.toNat, encB x)
def cps (L : List Int) : List Pc := L.reverse.map cpc
/-- One piece: what is open, what is written. -/
def cloE (L : List Int) (p : Pc) : List Int × List Pc :=
  if endC p.1 = true then ([], cps L ++ [p])
  else if embC p.1 = true then (L ++ [8236], [p])
  else if isoC p.1 = true then (L ++ [8297], [p])
  else if (p.1 : Int) = 8236 then (if (embL L).isSome = true then ((embL L).getD L, [p]) else (L, []))
  else if (p.1 : Int) = 8297 then (if (isoL L).isSome = true then ((isoL L).getD L, [p]) else (L, []))
  else (L, [p])
def cloR : List Int → List Pc → List Int × List Pc
  | L, [] => (L, [])
  | L, p :: P => ((cloR (cloE L p).1 P).1, (cloE L p).2 ++ (cloR (cloE L p).1 P).2)
def cloP (P : List Pc) : List Pc := (cloR [] P).2 ++ cps (cloR [] P).1
/-- What may be open. -/
def OpL (L : List Int) : Prop := ∀ x ∈ L, x = 8236 ∨ x = 8297
theorem isoT_sub {L L' : List Int} : ∀ {n : Nat}, isoT L n = some L' → ∃ m, L' = L.take m ∧ m < n ∧ L.getD m 0 = 8297
  | 0, h => by cases h
  | n + 1, h => by
    unfold isoT at h
    split at h
    · rename_i h1
      injection h with h
      exact ⟨n, h.symm, by omega, h1⟩
    · obtain ⟨m, h1, h2, h3⟩ := isoT_sub h
      exact ⟨m, h1, by omega, h3⟩
theorem OpL.take {L : List Int} (h : OpL L) (m : Nat) : OpL (L.take m) := fun x hx => h x (List.mem_of_mem_take hx)
theorem embL_sub {L L' : List Int} (h : embL L = some L') : L' = L.take (L.length - 1) ∧ L ≠ [] := by
  unfold embL at h
  split at h
  · rename_i h1
    injection h with h
    exact ⟨h.symm, h1.2⟩
  · cases h
theorem OpL.step {L : List Int} (h : OpL L) (p : Pc) : OpL (cloE L p).1 := by
  unfold cloE
  split
  · intro x hx; cases hx
  split
  · intro x hx
    rcases List.mem_append.1 hx with hx | hx
    · exact h x hx
    · left; simpa using hx
  split
  · intro x hx
    rcases List.mem_append.1 hx with hx | hx
    · exact h x hx
    · right; simpa using hx
  split
  · split
    · rcases e : embL L with _ | X
      · exact h
      · show OpL X
        rw [(embL_sub e).1]; exact h.take _
    · exact h
  split
  · split
    · rcases e : isoL L with _ | X
      · exact h
      · obtain ⟨m, e1, _⟩ := isoT_sub e
        show OpL X
        rw [e1]; exact h.take _
    · exact h
  · exact h
theorem cloR_app : ∀ (P Q : List Pc) (L : List Int), cloR L (P ++ Q) = ((cloR (cloR L P).1 Q).1, (cloR L P).2 ++ (cloR (cloR L P).1 Q).2)
  | [], Q, L => by simp [cloR]
  | p :: P, Q, L => by
    show ((cloR (cloE L p).1 (P ++ Q)).1, (cloE L p).2 ++ (cloR (cloE L p).1 (P ++ Q)).2) = _
    rw [cloR_app P Q]
    simp [cloR]
theorem embL_last (L : List Int) : embL (L ++ [8236]) = some L := by
  unfold embL
  rw [if_pos ⟨by simp, by simp⟩]
  simp
theorem isoL_last (L : List Int) : isoL (L ++ [8297]) = some L := by
  unfold isoL
  rw [List.length_append]
  show isoT (L ++ [8297]) (L.length + 1) = _
  unfold isoT
  rw [if_pos (by simp)]
  simp
theorem cps_snoc (L : List Int) (x : Int) : cps (L ++ [x]) = cpc x :: cps L := by simp [cps]
/-- All that is open ended: written so again. -/
theorem cloR_cps : ∀ (n : Nat) (L : List Int), L.length = n → OpL L → cloR L (cps L) = ([], cps L)
  | 0, L, h, _ => by
    have : L = [] := List.eq_nil_of_length_eq_zero h
    subst this; rfl
  | n + 1, L, h, hL => by
    obtain ⟨L', x, rfl⟩ : ∃ L' x, L = L' ++ [x] := ⟨L.dropLast, L.getLast (fun e => by rw [e] at h; cases h), (List.dropLast_concat_getLast _).symm⟩
    have hL' : OpL L' := fun y hy => hL y (List.mem_append_left _ hy)
    have ih := cloR_cps n L' (by simpa using h) hL'
    rw [cps_snoc]
    have hx := hL x (by simp)
    have hE : cloE (L' ++ [x]) (cpc x) = (L', [cpc x]) := by
      rcases hx with rfl | rfl
      · unfold cloE
        rw [if_neg (by decide), if_neg (by decide), if_neg (by decide), if_pos (by decide), embL_last]
        rfl
      · unfold cloE
        rw [if_neg (by decide), if_neg (by decide), if_neg (by decide), if_neg (by decide), if_pos (by decide), isoL_last]
        rfl
    show ((cloR (cloE (L' ++ [x]) (cpc x)).1 (cps L')).1, (cloE (L' ++ [x]) (cpc x)).2 ++ (cloR (cloE (L' ++ [x]) (cpc x)).1 (cps L')).2) = _
    rw [hE, ih]
    rfl
/-- What one piece has written is written so again. -/
theorem cloE_again {L : List Int} (h : OpL L) (p : Pc) : cloR L (cloE L p).2 = cloE L p := by
  have one : ∀ L', cloE L p = (L', [p]) → cloR L (cloE L p).2 = cloE L p := fun L' e => by
    rw [e]
    show ((cloE L p).1, (cloE L p).2 ++ []) = _
    rw [e]; rfl
  have non : cloE L p = (L, []) → cloR L (cloE L p).2 = cloE L p := fun e => by rw [e]; rfl
  by_cases h1 : endC p.1 = true
  · have e : cloE L p = ([], cps L ++ [p]) := by unfold cloE; rw [if_pos h1]
    rw [e]
    show cloR L (cps L ++ [p]) = _
    rw [cloR_app, cloR_cps _ L rfl h]
    have e2 : cloE [] p = ([], [p]) := by unfold cloE; rw [if_pos h1]; rfl
    show ((cloR (cloE [] p).1 []).1, cps L ++ ((cloE [] p).2 ++ (cloR (cloE [] p).1 []).2)) = _
    rw [e2]; rfl
  by_cases h2 : embC p.1 = true
  · exact one _ (by unfold cloE; rw [if_neg h1, if_pos h2])
  by_cases h3 : isoC p.1 = true
  · exact one _ (by unfold cloE; rw [if_neg h1, if_neg h2, if_pos h3])
  by_cases h4 : (p.1 : Int) = 8236
  · by_cases h5 : (embL L).isSome = true
    · exact one _ (by unfold cloE; rw [if_neg h1, if_neg h2, if_neg h3, if_pos h4, if_pos h5])
    · exact non (by unfold cloE; rw [if_neg h1, if_neg h2, if_neg h3, if_pos h4, if_neg h5])
  by_cases h6 : (p.1 : Int) = 8297
  · by_cases h5 : (isoL L).isSome = true
    · exact one _ (by unfold cloE; rw [if_neg h1, if_neg h2, if_neg h3, if_neg h4, if_pos h6, if_pos h5])
    · exact non (by unfold cloE; rw [if_neg h1, if_neg h2, if_neg h3, if_neg h4, if_pos h6, if_neg h5])
  · exact one _ (by unfold cloE; rw [if_neg h1, if_neg h2, if_neg h3, if_neg h4, if_neg h6])
theorem cloR_again : ∀ (P : List Pc) (L : List Int), OpL L → cloR L (cloR L P).2 = cloR L P ∧ OpL (cloR L P).1
  | [], L, h => ⟨rfl, h⟩
  | p :: P, L, h => by
    have ih := cloR_again P (cloE L p).1 (h.step p)
    refine ⟨?_, ih.2⟩
    show cloR L ((cloE L p).2 ++ (cloR (cloE L p).1 P).2) = _
    rw [cloR_app, cloE_again h p, ih.1]
    rfl
theorem cloP_again (P : List Pc) : cloP (cloP P) = cloP P := by
  have h0 : OpL [] := fun x hx => by cases hx
  obtain ⟨h1, h2⟩ := cloR_again P [] h0
  unfold cloP
  rw [cloR_app, h1, cloR_cps _ _ rfl h2]
  simp [cps]
end Go.Proofs.YtaekdnfpgkfjkaaDoor
