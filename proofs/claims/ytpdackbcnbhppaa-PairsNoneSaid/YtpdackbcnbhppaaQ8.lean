/- Sorted rows and the places that a binary search ends at. -/
import Derived.Test.YtpdackbcnbhppaaQ6
namespace Go.Proofs.Ytpdackbcnbhppaa

theorem Srt.le {R : List (Int × Int)} (hs : Srt R) {i j : Nat} (hij : i ≤ j) (hj : j < R.length) : (R.getD i (0, 0)).1 ≤ (R.getD j (0, 0)).1 := by
  rcases Nat.lt_or_ge i j with h | h
  · have := List.pairwise_iff_getElem.1 hs i j (by omega) hj h
    rw [List.getD_eq_getElem?_getD, List.getD_eq_getElem?_getD, List.getElem?_eq_getElem (by omega), List.getElem?_eq_getElem hj]
    exact this
  · have : i = j := by omega
    subst this; exact Int.le_refl _
theorem srt_take {R : List (Int × Int)} (hs : Srt R) {i : Nat} {c : Int} (hi : i ≤ R.length) (h : i = 0 ∨ (R.getD (i - 1) (0, 0)).1 < c) : ∀ y ∈ R.take i, y.1 < c := by
  intro y hy
  obtain ⟨k, hk, rfl⟩ := List.mem_iff_getElem.1 hy
  rw [List.getElem_take]
  rw [List.length_take] at hk
  rcases h with h | h
  · omega
  · have := hs.le (i := k) (j := i - 1) (by omega) (by omega)
    rw [List.getD_eq_getElem?_getD, List.getElem?_eq_getElem (by omega)] at this
    simp only [Option.getD_some] at this
    omega
theorem srt_drop {R : List (Int × Int)} (hs : Srt R) {i : Nat} {c : Int} (h : i = R.length ∨ c ≤ (R.getD i (0, 0)).1) : ∀ y ∈ R.drop i, c ≤ y.1 := by
  intro y hy
  obtain ⟨k, hk, rfl⟩ := List.mem_iff_getElem.1 hy
  rw [List.getElem_drop]
  rw [List.length_drop] at hk
  rcases h with h | h
  · omega
  · have := hs.le (i := i) (j := i + k) (by omega) (by omega)
    rw [List.getD_eq_getElem?_getD (l := R) (i := i + k), List.getElem?_eq_getElem (by omega)] at this
    simp only [Option.getD_some] at this
    omega
theorem Srt.take {R : List (Int × Int)} (hs : Srt R) (i : Nat) : Srt (R.take i) := hs.sublist (List.take_sublist i R)
theorem Srt.drop {R : List (Int × Int)} (hs : Srt R) (i : Nat) : Srt (R.drop i) := hs.sublist (List.drop_sublist i R)
/-- One on the left. -/
theorem mrg_at_left {x : Int × Int} {R : List (Int × Int)} (hs : Srt R) {i : Nat} (hi : i ≤ R.length) (h1 : i = 0 ∨ (R.getD (i - 1) (0, 0)).1 < x.1) (h2 : i = R.length ∨ x.1 ≤ (R.getD i (0, 0)).1) :
    mrg [x] R = R.take i ++ x :: R.drop i := by
  have := mrg_parts [] (R.take i) [x] (R.drop i) (fun a ha b hb => by simp at ha; subst ha; exact srt_take hs hi h1 b hb) (by simp)
  rw [List.take_append_drop, List.nil_append, nil_mrg, left_mrg (srt_drop hs h2)] at this
  exact this
/-- One on the right. -/
theorem mrg_at_right {y : Int × Int} {L : List (Int × Int)} (hs : Srt L) {i : Nat} (hi : i ≤ L.length) (h1 : i = 0 ∨ (L.getD (i - 1) (0, 0)).1 ≤ y.1) (h2 : i = L.length ∨ y.1 < (L.getD i (0, 0)).1) :
    mrg L [y] = L.take i ++ y :: L.drop i := by
  have h3 : ∀ z ∈ L.drop i, y.1 < z.1 := fun z hz => by
    have := srt_drop hs (c := y.1 + 1) (by omega) z hz; omega
  have := mrg_parts (L.take i) [] (L.drop i) [y] (by simp) (fun a ha b hb => by
    simp at hb; subst hb
    have := srt_take hs hi (c := b.1 + 1) (by omega) a ha
    omega)
  rw [List.take_append_drop, List.nil_append, mrg_nil, one_mrg h3] at this
  exact this
/-- Two parts each. -/
theorem mrg_at {L R : List (Int × Int)} (hL : Srt L) (hR : Srt R) {i j : Nat} (hi : i ≤ L.length) (hj : j ≤ R.length)
    (h1 : i = 0 ∨ j = R.length ∨ (L.getD (i - 1) (0, 0)).1 ≤ (R.getD j (0, 0)).1) (h2 : i = L.length ∨ j = 0 ∨ (R.getD (j - 1) (0, 0)).1 < (L.getD i (0, 0)).1) :
    mrg L R = mrg (L.take i) (R.take j) ++ mrg (L.drop i) (R.drop j) := by
  have := mrg_parts (L.take i) (R.take j) (L.drop i) (R.drop j) (fun x hx y hy => by
    rcases h2 with h | h | h
    · subst h; rw [List.drop_length] at hx; cases hx
    · subst h; cases hy
    · have := srt_take hR hj (.inr h) y hy
      have := srt_drop hL (.inr (Int.le_refl _)) x hx
      omega) (fun x hx y hy => by
    rcases h1 with h | h | h
    · subst h; cases hx
    · subst h; rw [List.drop_length] at hy; cases hy
    · have := srt_take hL hi (c := (R.getD j (0, 0)).1 + 1) (.inr (by omega)) x hx
      have := srt_drop hR (.inr (Int.le_refl _)) y hy
      omega)
  rw [List.take_append_drop, List.take_append_drop] at this
  exact this
end Go.Proofs.Ytpdackbcnbhppaa
