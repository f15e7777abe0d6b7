/- A pass of Close: right pieces, no more bad ones, at most twice as long; what comes of it, or fewer bad bytes. -/
import Derived.Test.YtaekdnfpgkfjkaaDoorU4
namespace Go.Proofs.YtaekdnfpgkfjkaaDoor
open Go.Lib

theorem decN_len3 {n x0 x1 x2 x3 : Nat} {v : Nat × Nat} (b0 : x0 < 256) (h : decodeN n x0 x1 x2 x3 = v) (h1 : 2048 ≤ v.1) (h2 : v.1 < 65533) : v.2 = 3 := by
  unfold decodeN at h
  (repeat' split at h) <;> subst h <;> simp only at * <;> omega
theorem dcl_len3 {l : List UInt8} (h1 : 2048 ≤ (dcl l).1) (h2 : (dcl l).1 < 65533) : (dcl l).2 = 3 := decN_len3 (gn_lt l 0) rfl h1 h2
theorem piece_len {p : Pc} (h : OkP p) (h1 : 2048 ≤ p.1) (h2 : p.1 < 65533) : p.2.length = 3 := by
  rcases h with h | h
  · have := (badP_iff.1 h).1; omega
  · have hd := h.2.2.2 []
    rw [List.append_nil] at hd
    have := dcl_len3 (l := p.2) (by rw [hd]; exact h1) (by rw [hd]; exact h2)
    rw [hd] at this
    exact this
theorem embL_lt {L X : List Int} (h : embL L = some X) : X.length + 1 ≤ L.length := by
  obtain ⟨e, hne⟩ := embL_sub h
  have : 0 < L.length := by rcases L with _ | _ <;> simp_all
  rw [e, List.length_take]; omega
theorem isoL_lt {L X : List Int} (h : isoL L = some X) : X.length + 1 ≤ L.length := by
  obtain ⟨m, e, hm, _⟩ := isoT_sub h
  rw [e, List.length_take]; omega
/-- One piece: what it writes is right; as many bad bytes; bytes. -/
theorem cloE_facts {L : List Int} {p : Pc} (hL : OpL L) (hp : OkP p) : (∀ q ∈ (cloE L p).2, OkP q) ∧ bdn (cloE L p).2 = bdn [p] ∧ nbn (cloE L p).2 = nbn [p] ∧ (byP (cloE L p).2).length + 3 * (cloE L p).1.length ≤ 3 * L.length + 2 * nbn [p] := by
  obtain ⟨c1, c2, c3, c4⟩ := cps_facts L hL
  have e1 : byP [p] = p.2 := by simp [byP]
  have n1 : nbn [p] = nbP p := by show nbP p + 0 = _; omega
  by_cases h1 : endC p.1 = true
  · have e : cloE L p = ([], cps L ++ [p]) := by unfold cloE; rw [if_pos h1]
    have hn : nbP p = p.2.length := by
      unfold nbP
      rw [if_neg (by intro hh; simp [endC] at h1; omega)]
    rw [e]
    refine ⟨fun q hq => ?_, by rw [bdn_app, c2, Nat.zero_add], by rw [nbn_app, c3, Nat.zero_add], ?_⟩
    · rcases List.mem_append.1 hq with hq | hq
      · exact .inr (c1 q hq)
      · have : q = p := by simpa using hq
        subst this; exact hp
    · simp only [byP_app, e1, List.length_append, c4, List.length_nil, n1, hn]; omega
  have one : ∀ L', cloE L p = (L', [p]) → p.2.length + 3 * L'.length ≤ 3 * L.length + 2 * nbP p → (∀ q ∈ (cloE L p).2, OkP q) ∧ bdn (cloE L p).2 = bdn [p] ∧ nbn (cloE L p).2 = nbn [p] ∧ (byP (cloE L p).2).length + 3 * (cloE L p).1.length ≤ 3 * L.length + 2 * nbn [p] := fun L' e hl => by
    rw [e]
    exact ⟨fun q hq => (by have : q = p := by simpa using hq
                           subst this; exact hp), rfl, rfl, by rw [n1]; simp only [e1]; exact hl⟩
  have non : p.1 = 8236 ∨ p.1 = 8297 → cloE L p = (L, []) → (∀ q ∈ (cloE L p).2, OkP q) ∧ bdn (cloE L p).2 = bdn [p] ∧ nbn (cloE L p).2 = nbn [p] ∧ (byP (cloE L p).2).length + 3 * (cloE L p).1.length ≤ 3 * L.length + 2 * nbn [p] := fun hr e => by
    rw [e]
    refine ⟨fun q hq => (by cases hq), ?_, ?_, ?_⟩
    · show 0 = (if badP p = true then 1 else 0) + 0
      rw [if_neg (by rw [badP_iff]; omega)]
    · rw [n1]; unfold nbP; rw [if_pos hr]; rfl
    · simp [byP]
  by_cases h2 : embC p.1 = true
  · have hr : 2048 ≤ p.1 ∧ p.1 < 65533 ∧ ¬ (p.1 = 8236 ∨ p.1 = 8297) := by simp [embC] at h2; omega
    have hl := piece_len hp hr.1 hr.2.1
    exact one _ (by unfold cloE; rw [if_neg h1, if_pos h2]) (by unfold nbP; rw [if_neg hr.2.2, List.length_append, List.length_singleton]; omega)
  by_cases h3 : isoC p.1 = true
  · have hr : 2048 ≤ p.1 ∧ p.1 < 65533 ∧ ¬ (p.1 = 8236 ∨ p.1 = 8297) := by simp [isoC] at h3; omega
    have hl := piece_len hp hr.1 hr.2.1
    exact one _ (by unfold cloE; rw [if_neg h1, if_neg h2, if_pos h3]) (by unfold nbP; rw [if_neg hr.2.2, List.length_append, List.length_singleton]; omega)
  by_cases h4 : (p.1 : Int) = 8236
  · have hr : p.1 = 8236 := by omega
    have hl := piece_len hp (by omega) (by omega)
    by_cases h5 : (embL L).isSome = true
    · obtain ⟨X, hX⟩ := Option.isSome_iff_exists.1 h5
      have := embL_lt hX
      exact one X (by unfold cloE; rw [if_neg h1, if_neg h2, if_neg h3, if_pos h4, if_pos h5, hX]; rfl) (by omega)
    · exact non (.inl hr) (by unfold cloE; rw [if_neg h1, if_neg h2, if_neg h3, if_pos h4, if_neg h5])
  by_cases h6 : (p.1 : Int) = 8297
  · have hr : p.1 = 8297 := by omega
    have hl := piece_len hp (by omega) (by omega)
    by_cases h5 : (isoL L).isSome = true
    · obtain ⟨X, hX⟩ := Option.isSome_iff_exists.1 h5
      have := isoL_lt hX
      exact one X (by unfold cloE; rw [if_neg h1, if_neg h2, if_neg h3, if_neg h4, if_pos h6, if_pos h5, hX]; rfl) (by omega)
    · exact non (.inr hr) (by unfold cloE; rw [if_neg h1, if_neg h2, if_neg h3, if_neg h4, if_pos h6, if_neg h5])
  · exact one _ (by unfold cloE; rw [if_neg h1, if_neg h2, if_neg h3, if_neg h4, if_neg h6]) (by unfold nbP; rw [if_neg (by omega)]; omega)
theorem cloR_facts : ∀ (P : List Pc) (L : List Int), OpL L → (∀ p ∈ P, OkP p) → (∀ q ∈ (cloR L P).2, OkP q) ∧ bdn (cloR L P).2 = bdn P ∧ nbn (cloR L P).2 = nbn P ∧ (byP (cloR L P).2).length + 3 * (cloR L P).1.length ≤ 3 * L.length + 2 * nbn P
  | [], L, _, _ => ⟨fun q hq => (by cases hq), rfl, rfl, by simp [cloR, byP, nbn]⟩
  | p :: P, L, hL, hP => by
    obtain ⟨i1, i2, i3, i4⟩ := cloE_facts hL (hP p List.mem_cons_self)
    obtain ⟨j1, j2, j3, j4⟩ := cloR_facts P (cloE L p).1 (hL.step p) (fun q hq => hP q (List.mem_cons_of_mem _ hq))
    have eb : bdn [p] = (if badP p = true then 1 else 0) := rfl
    have en : nbn [p] = nbP p := rfl
    have fb : bdn (p :: P) = (if badP p = true then 1 else 0) + bdn P := rfl
    have fn : nbn (p :: P) = nbP p + nbn P := rfl
    refine ⟨fun q hq => ?_, ?_, ?_, ?_⟩
    · rcases List.mem_append.1 hq with hq | hq
      · exact i1 q hq
      · exact j1 q hq
    · show bdn ((cloE L p).2 ++ _) = _
      rw [bdn_app, i2, j2, eb, fb]
    · show nbn ((cloE L p).2 ++ _) = _
      rw [nbn_app, i3, j3, en, fn]
    · show (byP ((cloE L p).2 ++ (cloR (cloE L p).1 P).2)).length + 3 * (cloR (cloE L p).1 P).1.length ≤ _
      rw [byP_app, List.length_append]
      omega
theorem cloP_facts {P : List Pc} (hP : ∀ p ∈ P, OkP p) : (∀ q ∈ cloP P, OkP q) ∧ bdn (cloP P) = bdn P ∧ nbn (cloP P) = nbn P ∧ (byP (cloP P)).length ≤ 2 * nbn P := by
  have h0 : OpL [] := fun x hx => by cases hx
  obtain ⟨h1, h2, h3, h4⟩ := cloR_facts P [] h0 hP
  obtain ⟨-, hO⟩ := cloR_again P [] h0
  obtain ⟨c1, c2, c3, c4⟩ := cps_facts _ hO
  unfold cloP
  refine ⟨fun q hq => ?_, by rw [bdn_app, h2, c2]; rfl, by rw [nbn_app, h3, c3]; rfl, ?_⟩
  · rcases List.mem_append.1 hq with hq | hq
    · exact h1 q hq
    · exact .inr (c1 q hq)
  · rw [byP_app, List.length_append, c4]
    simp at h4
    omega
/-- A pass. -/
theorem pass (s : ByteArray) : (cloF (txt (cloF s)) = cloF s ∨ bdn (pcs (txt (cloF s))) < bdn (pcs s)) ∧ bdn (pcs (txt (cloF s))) ≤ bdn (pcs s) ∧ nbn (pcs (txt (cloF s))) ≤ nbn (pcs s) ∧ (txt (cloF s)).size ≤ 2 * nbn (pcs s) := by
  have hok : ∀ p ∈ pcs s, OkP p := by rw [pcs_pl]; exact pl_ok _
  obtain ⟨h1, h2, h3, h4⟩ := cloP_facts hok
  have hp : pcs (txt (cloF s)) = pl (byP (cloP (pcs s))) := by rw [pcs_pl, txt_list, cloF_P]
  obtain ⟨r1, r2⟩ := rejoin _ (cloP (pcs s)) (Nat.le_refl _) h1
  refine ⟨?_, ?_, by rw [hp]; omega, by rw [txt_size, cloF_P]; exact h4⟩
  · rcases r1 with r1 | r1
    · left
      rw [cloF_P (txt (cloF s)), hp, r1, cloP_again, ← cloF_P]
    · right
      rw [hp]; omega
  · rcases r1 with r1 | r1
    · rw [hp, r1]; omega
    · rw [hp]; omega
theorem nbn_le : ∀ P : List Pc, nbn P ≤ (byP P).length
  | [] => Nat.le_refl _
  | p :: P => by
    have ih := nbn_le P
    show nbP p + nbn P ≤ _
    rw [byP_cons, List.length_append]
    have : nbP p ≤ p.2.length := by
      unfold nbP
      split
      · omega
      · exact Nat.le_refl _
    omega
theorem nbn_size (s : ByteArray) : nbn (pcs s) ≤ s.size := by
  have h := nbn_le (pcs s)
  have e : byP (pcs s) = s.data.toList := by rw [pcs_pl, pl_by]
  rw [e] at h
  exact h
/-- How many passes are left. -/
def mu (s : ByteArray) : Nat := 2 * bdn (pcs s) + (if txt (cloF s) = s then 0 else 1)
theorem mu_lt {s : ByteArray} (h : ¬ txt (cloF s) = s) : mu (txt (cloF s)) < mu s := by
  obtain ⟨h1, h2, -, -⟩ := pass s
  unfold mu
  rw [if_neg h]
  rcases h1 with h1 | h1
  · rw [if_pos (by rw [h1])]; omega
  · split <;> omega
def clW : Nat → ByteArray → ByteArray
  | 0, s => s
  | f + 1, s => if txt (cloF s) = s then s else clW f (txt (cloF s))
theorem clW_fuel : ∀ (f g : Nat) (s : ByteArray), mu s < f → mu s < g → clW f s = clW g s
  | 0, _, _, h, _ => by omega
  | _, 0, _, _, h => by omega
  | f + 1, g + 1, s, h1, h2 => by
    unfold clW
    split
    · rfl
    · rename_i h
      have := mu_lt h
      exact clW_fuel f g _ (by omega) (by omega)
/-- What Close tells. -/
def closeL (s : ByteArray) : ByteArray := clW (mu s + 1) s
theorem closeL_fix {s : ByteArray} (h : txt (cloF s) = s) : closeL s = s := by
  unfold closeL clW
  rw [if_pos h]
theorem closeL_step {s : ByteArray} (h : ¬ txt (cloF s) = s) : closeL s = closeL (txt (cloF s)) := by
  have hm := mu_lt h
  conv => lhs; unfold closeL clW
  rw [if_neg h]
  exact clW_fuel _ _ _ hm (Nat.lt_succ_self _)
end Go.Proofs.YtaekdnfpgkfjkaaDoor
