/- A pass of Close: what comes of it, or fewer bad bytes; how long it gets. -/
import Derived.Test.YtaekdnfpgkfjkaaDoorU3
namespace Go.Proofs.YtaekdnfpgkfjkaaDoor
open Go.Lib

theorem byP_app (P Q : List Pc) : byP (P ++ Q) = byP P ++ byP Q := by simp [byP]
theorem byP_cps (L : List Int) : byP (cps L) = clsF L := by
  unfold byP cps clsF cpc
  rw [List.flatMap_map]
theorem cloS_E (L : List Int) (out : List UInt8) (p : Pc) : cloS (L, out) p.1 p.2 = ((cloE L p).1, out ++ byP (cloE L p).2) := by
  have e1 : byP [p] = p.2 := by simp [byP]
  unfold cloS cloE
  split
  · simp only [byP_app, byP_cps, e1, List.append_assoc]
  split
  · simp only [e1]
  split
  · simp only [e1]
  split
  · split
    · simp only [e1]
    · simp [byP]
  split
  · split
    · simp only [e1]
    · simp [byP]
  · simp only [e1]
def pcs (s : ByteArray) : List Pc := (chs s).map fun c => (c.r, cut s c)
theorem pcs_pl (s : ByteArray) : pcs s = pl s.data.toList := pl_chs s
theorem cloT_R (s : ByteArray) : ∀ k, k ≤ (chs s).length → cloT s k = ((cloR [] ((pcs s).take k)).1, byP (cloR [] ((pcs s).take k)).2)
  | 0, _ => rfl
  | k + 1, h => by
    have ih := cloT_R s k (by omega)
    have hk : k < (chs s).length := by omega
    have hp : (pcs s)[k]? = some (((chs s).getD k default).r, cut s ((chs s).getD k default)) := by
      unfold pcs
      rw [List.getElem?_map, List.getElem?_eq_getElem hk, List.getD_eq_getElem?_getD, List.getElem?_eq_getElem hk]
      rfl
    have ht : (pcs s).take (k + 1) = (pcs s).take k ++ [(((chs s).getD k default).r, cut s ((chs s).getD k default))] := by
      obtain ⟨h1, h2⟩ := List.getElem?_eq_some_iff.1 hp
      rw [List.take_succ_eq_append_getElem h1, h2]
    show cloS (cloT s k) _ _ = _
    rw [ih, ht, cloR_app]
    have := cloS_E (cloR [] ((pcs s).take k)).1 (byP (cloR [] ((pcs s).take k)).2) (((chs s).getD k default).r, cut s ((chs s).getD k default))
    simp only at this
    rw [this]
    simp [cloR, byP_app]
theorem cloF_P (s : ByteArray) : cloF s = byP (cloP (pcs s)) := by
  have h := cloT_R s (chs s).length (Nat.le_refl _)
  have hl : (pcs s).take (chs s).length = pcs s := List.take_of_length_le (by simp [pcs])
  unfold cloF cloP
  rw [h, hl, byP_app, byP_cps]

theorem bdn_app : ∀ P Q : List Pc, bdn (P ++ Q) = bdn P + bdn Q
  | [], Q => by simp [bdn]
  | p :: P, Q => by
    show _ + bdn (P ++ Q) = _ + bdn P + bdn Q
    rw [bdn_app P Q]; omega
theorem nbn_app : ∀ P Q : List Pc, nbn (P ++ Q) = nbn P + nbn Q
  | [], Q => by simp [nbn]
  | p :: P, Q => by
    show _ + nbn (P ++ Q) = _ + nbn P + nbn Q
    rw [nbn_app P Q]; omega
theorem good_closer (x : Int) (h : x = 8236 ∨ x = 8297) : GoodP (cpc x) := by
  have hd : dcl (cpc x).2 = ((cpc x).1, 3) := by rcases h with rfl | rfl <;> decide
  have hl : (cpc x).2.length = 3 := by rcases h with rfl | rfl <;> decide
  have hb : badP (cpc x) = false := by rcases h with rfl | rfl <;> decide
  have hf : gn (cpc x).2 0 / 64 ≠ 2 := by rcases h with rfl | rfl <;> decide
  refine ⟨fun e => (by rw [e] at hl; cases hl), hb, hf, fun rest => ?_⟩
  rw [hl]
  rw [← hd]
  refine dcl_local (by rw [hd]; rcases h with rfl | rfl <;> decide) (fun i hi => ?_) ?_
  · rw [hd] at hi
    exact gn_app (by rw [hl]; exact hi)
  · rw [hd, List.length_append, hl]; show 3 ≤ _; omega
theorem cps_facts (L : List Int) (h : OpL L) : (∀ p ∈ cps L, GoodP p) ∧ bdn (cps L) = 0 ∧ nbn (cps L) = 0 ∧ (byP (cps L)).length = 3 * L.length := by
  have key : ∀ M : List Int, OpL M → (∀ p ∈ M.map cpc, GoodP p) ∧ bdn (M.map cpc) = 0 ∧ nbn (M.map cpc) = 0 ∧ (byP (M.map cpc)).length = 3 * M.length := by
    intro M
    induction M with
    | nil => intro _; exact ⟨fun p hp => (by cases hp), rfl, rfl, rfl⟩
    | cons x M ih =>
      intro hM
      obtain ⟨i1, i2, i3, i4⟩ := ih (fun y hy => hM y (List.mem_cons_of_mem _ hy))
      have hx := hM x List.mem_cons_self
      have hg := good_closer x hx
      refine ⟨fun p hp => ?_, ?_, ?_, ?_⟩
      · rcases List.mem_cons.1 hp with rfl | hp
        · exact hg
        · exact i1 p hp
      · show (if badP (cpc x) = true then 1 else 0) + bdn (M.map cpc) = 0
        rw [i2, if_neg (by rw [hg.2.1]; simp)]
      · show nbP (cpc x) + nbn (M.map cpc) = 0
        rw [i3]
        rcases hx with rfl | rfl <;> rfl
      · rw [List.map_cons, byP_cons, List.length_append, i4, List.length_cons]
        have : (cpc x).2.length = 3 := by rcases hx with rfl | rfl <;> decide
        omega
  unfold cps
  have := key L.reverse (fun x hx => h x (List.mem_reverse.1 hx))
  simpa using this
end Go.Proofs.YtaekdnfpgkfjkaaDoor
