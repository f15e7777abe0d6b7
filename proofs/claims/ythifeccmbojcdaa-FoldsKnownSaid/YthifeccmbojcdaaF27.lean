/- Cut, whatever comes in, by both. -/
import Derived.Test.YthifeccmbojcdaaF17
namespace Go.Proofs.Ythifeccmbojcdaa
open Go.RowKit

section
variable {l ws : List Int} {most : Int} {a : Nat}
theorem posC_map (j : Nat) : posC (l.map clsC) j = posC l j := by unfold posC; rw [clusL_map, List.length_map]
theorem PP_map (j : Nat) : PP (l.map clsC) ws j = PP l ws j := by unfold PP; rw [posC_map]
theorem blkJ_map {j : Nat} (h : j < (clusL l).length) : blkJ (l.map clsC) j = blkJ l j := by
  unfold blkJ
  rw [posC_map, getD_map_cls l (posC_lt h).2, blkC_clsC]
theorem Wd_map : ∀ k, k ≤ (clusL l).length → Wd (l.map clsC) ws a k = Wd l ws a k
  | 0, _ => rfl
  | k + 1, h => by
    have ih := Wd_map k (by omega)
    simp only [Wd, ih, blkJ_map (l := l) (j := k) (by omega), PP_map]
theorem mayJ_map {k : Nat} (h : k < (clusL l).length) : mayJ (l.map clsC) k = mayJ l k := by
  unfold mayJ
  rw [clusL_map]
  exact brkB_map l h
theorem lastW_map {ok ok' : Nat → Bool} (hok : ∀ k, k < (clusL l).length → ok' k = ok k) : ∀ k, k < (clusL l).length → lastW (l.map clsC) ws most ok' a k = lastW l ws most ok a k
  | 0, _ => rfl
  | k + 1, h => by
    have ih := lastW_map hok k (by omega)
    simp only [lastW, ih, hok _ h, Wd_map (l := l) (ws := ws) (a := a) (k + 1) (by omega)]
theorem nextC_map (hm : 0 < (clusL l).length) : nextC (l.map clsC) ws most a = nextC l ws most a := by
  unfold nextC
  simp only [clusL_map, Wd_map (l := l) (ws := ws) (a := a) _ (Nat.le_refl _), lastW_map (l := l) (ws := ws) (most := most) (a := a) (ok := mayJ l) (ok' := mayJ (l.map clsC)) (fun k hk => mayJ_map hk) _ (show (clusL l).length - 1 < (clusL l).length by omega),
    lastW_map (l := l) (ws := ws) (most := most) (a := a) (ok := fun _ => true) (ok' := fun _ => true) (fun _ _ => rfl) _ (show (clusL l).length - 1 < (clusL l).length by omega)]
theorem cutF_map : ∀ f k, cutF (l.map clsC) ws most f k = cutF l ws most f k
  | 0, _ => rfl
  | f + 1, k => by
    rw [cutF, cutF, clusL_map]
    split
    · rw [nextC_map (by omega), cutF_map f]
    · rfl
theorem cutL_map : cutL (l.map clsC) ws most = cutL l ws most := by
  unfold cutL
  rw [clusL_map, cutF_map]
end

/-- What Cut answers. -/
def CutIs (l ws : List Int) (most : Int) (X : List Int) (e : Int) : Prop :=
  (l.length ≠ ws.length ∧ X = [] ∧ e = 2) ∨
  (l.length = ws.length ∧ (most < 0 ∨ 1099511627776 < most ∨ ¬ Fine ws) ∧ X = [] ∧ e = 230) ∨
  (l.length = ws.length ∧ Fine ws ∧ 0 ≤ most ∧ most ≤ 1099511627776 ∧ X = natI ((cutL l ws most).map (posC l)) ∧ e = 0)
theorem CutIs.ex (l ws : List Int) (most : Int) : ∃ X e, CutIs l ws most X e := by
  by_cases h1 : l.length = ws.length
  · by_cases h2 : most < 0 ∨ 1099511627776 < most ∨ ¬ Fine ws
    · exact ⟨_, _, .inr (.inl ⟨h1, h2, rfl, rfl⟩)⟩
    · have h3 : Fine ws := Classical.byContradiction fun h => h2 (.inr (.inr h))
      exact ⟨_, _, .inr (.inr ⟨h1, h3, by omega, by omega, rfl, rfl⟩)⟩
  · exact ⟨_, _, .inl ⟨h1, rfl, rfl⟩⟩
theorem CutIs.map {l ws : List Int} {most : Int} {X : List Int} {e : Int} (h : CutIs l ws most X e) : CutIs (l.map clsC) ws most X e := by
  unfold CutIs at h ⊢
  rw [List.length_map, cutL_map]
  have : (cutL l ws most).map (posC (l.map clsC)) = (cutL l ws most).map (posC l) := List.map_congr_left (fun j _ => posC_map j)
  rw [this]
  exact h
theorem CutIs.small {l ws : List Int} {most : Int} {X : List Int} {e : Int} (h : CutIs l ws most X e) : X.length ≤ l.length := by
  rcases h with ⟨_, rfl, _⟩ | ⟨_, _, rfl, _⟩ | ⟨_, _, _, _, rfl, _⟩
  · simp
  · simp
  · rw [natI_map_length]
    have h1 := cutF_length (l := l) (ws := ws) (most := most) (clusL l).length 0
    have h2 := clusL_length l
    unfold cutL
    omega

theorem Cut_any {w : World} {B B2 : Nat} {A A2 : Option Addr} {n n2 c c2 : Nat} {l ws : List Int} {most : Int} {X : List Int} {e : Int} (hn : n = l.length) (hw : n2 = ws.length) (h : RdInts w B .u8 A l) (h2 : RdInts w B2 .i64 A2 ws) (hc2 : n2 ≤ c2) (hl : n ≤ 1048576) (hX : CutIs l ws most X e) :
    Calls Try.prog 24 #[.slice A n c, .slice A2 n2 c2, .int .i64 most] w fun r w' => ∃ v, r = .returned (.tuple #[v, .int .i64 e]) ∧ Ints w' w.heap.size 3 .i64 v X ∧ Below w.heap.size w w' := by
  rcases hX with ⟨h1, rfl, rfl⟩ | ⟨h1, hb, rfl, rfl⟩ | ⟨h1, hf, hm0, hm1, rfl, rfl⟩
  · refine (Cut_len (by omega)).mono ?_
    rintro r w' ⟨rfl, rfl⟩
    exact ⟨_, rfl, Ints.nil _ _ _ _, Below.refl _ _⟩
  · obtain rfl : n2 = n := by omega
    refine (Cut_wide hw h2 hl hb).mono ?_
    rintro r w' ⟨rfl, rfl⟩
    exact ⟨_, rfl, Ints.nil _ _ _ _, Below.refl _ _⟩
  · obtain rfl : n2 = n := by omega
    exact Cut_ok hn hw h h2 hc2 hl hf hm0 hm1
theorem rCut_any {w : World} {B B2 : Nat} {A A2 : Option Addr} {n n2 c c2 : Nat} {l ws : List Int} {most : Int} {X : List Int} {e : Int} (hn : n = l.length) (hw : n2 = ws.length) (h : RdInts w B .u8 A l) (h2 : RdInts w B2 .i64 A2 ws) (hl : n ≤ 1048576) (hX : CutIs l ws most X e) :
    Calls Try.prog 25 #[.slice A n c, .slice A2 n2 c2, .int .i64 most] w fun r w' => ∃ v, r = .returned (.tuple #[v, .int .i64 e]) ∧ Ints w' w.heap.size 3 .i64 v X ∧ Below w.heap.size w w' := by
  rcases hX with ⟨h1, rfl, rfl⟩ | ⟨h1, hb, rfl, rfl⟩ | ⟨h1, hf, hm0, hm1, rfl, rfl⟩
  · refine (rCut_len (by omega)).mono ?_
    rintro r w' ⟨rfl, rfl⟩
    exact ⟨_, rfl, Ints.nil _ _ _ _, Below.refl _ _⟩
  · obtain rfl : n2 = n := by omega
    refine (rCut_wide hw h2 hl hb).mono ?_
    rintro r w' ⟨rfl, rfl⟩
    exact ⟨_, rfl, Ints.nil _ _ _ _, Below.refl _ _⟩
  · obtain rfl : n2 = n := by omega
    exact rCut_ok hn hw h h2 hl hf hm0 hm1

theorem RdInts.pre {w : World} {B : Nat} {k : IntKind} {A : Option Addr} {l l' : List Int} (h : RdInts w B k A (l ++ l')) : RdInts w B k A l := by
  refine ⟨by simp, fun hn => ?_⟩
  obtain ⟨b, off, e, hb, hs, hc⟩ := h.2 (by simp; omega)
  refine ⟨b, off, e, hb, hs, fun j u hu => hc j u ?_⟩
  rw [List.map_append, List.getElem?_append_left]
  · exact hu
  · exact (List.getElem?_eq_some_iff.1 hu).1
end Go.Proofs.Ythifeccmbojcdaa
