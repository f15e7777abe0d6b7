/- Groups of one level, one more character at the end. -/
import Derived.Test.YthifeccmbojcdaaT6
namespace Go.Proofs.Ythifeccmbojcdaa
open Go.RowKit

theorem spanN_app (lv : List Int) (v x : Int) : ∀ t, spanN lv v (t ++ [x]) = if spanN lv v t < t.length then spanN lv v t else if lvAt lv x = v then t.length + 1 else t.length
  | [] => by simp [spanN]
  | a :: t => by
    have ih := spanN_app lv v x t
    rw [List.cons_append, spanN]
    by_cases h : lvAt lv a = v
    · rw [if_pos h, ih, spanN, if_pos h]
      by_cases h2 : spanN lv v t < t.length
      · rw [if_pos h2, if_pos (by simp; omega)]
      · rw [if_neg h2, if_neg (show ¬ (spanN lv v t + 1 < (a :: t).length) by simp; omega)]
        by_cases h3 : lvAt lv x = v
        · rw [if_pos h3, if_pos h3]; simp
        · rw [if_neg h3, if_neg h3]; simp
    · rw [if_neg h, spanN, if_neg h, if_pos (by simp)]
theorem span_all {lv : List Int} {v : Int} {t : List Int} (h : spanN lv v t = t.length) : ∀ k, k < t.length → lvAt lv (t.getD k 0) = v := fun k hk => spanN_in lv v t k (by omega)

theorem grp_snoc (lv : List Int) (x : Int) (l : List Int) : l ≠ [] → ∃ G g, grp lv l = G ++ [g] ∧ g ≠ [] ∧ g.getD (g.length - 1) 0 = l.getD (l.length - 1) 0 ∧ grp lv (l ++ [x]) = if lvAt lv (l.getD (l.length - 1) 0) = lvAt lv x then G ++ [g ++ [x]] else (G ++ [g]) ++ [[x]] := by
  fun_induction grp lv l with
  | case1 => exact fun h => absurd rfl h
  | case2 a t ih =>
    intro _
    have hle := spanN_le lv (lvAt lv a) t
    rw [List.cons_append, grp, spanN_app]
    by_cases hn : spanN lv (lvAt lv a) t < t.length
    · rw [if_pos hn]
      have hd : t.drop (spanN lv (lvAt lv a) t) ≠ [] := by
        intro e
        have := congrArg List.length e
        simp at this
        omega
      obtain ⟨G, g, e1, hg, hl, e2⟩ := ih hd
      generalize spanN lv (lvAt lv a) t = n at *
      have hlast : (t.drop n).getD ((t.drop n).length - 1) 0 = (a :: t).getD ((a :: t).length - 1) 0 := by
        simp only [List.getD_eq_getElem?_getD, List.getElem?_drop, List.length_drop, List.length_cons]
        rw [show n + (t.length - n - 1) = t.length - 1 by omega, show t.length + 1 - 1 = (t.length - 1) + 1 by omega, List.getElem?_cons_succ]
      rw [hlast] at hl e2
      refine ⟨(a :: t.take n) :: G, g, by rw [e1]; simp, hg, hl, ?_⟩
      rw [List.take_append_of_le_length (by omega), List.drop_append_of_le_length (by omega), e2]
      split <;> simp
    · rw [if_neg hn]
      have hn : spanN lv (lvAt lv a) t = t.length := by omega
      have hall := span_all hn
      rw [hn]
      have hlast : lvAt lv ((a :: t).getD ((a :: t).length - 1) 0) = lvAt lv a := by
        rcases Nat.eq_zero_or_pos t.length with h0 | h0
        · rw [List.eq_nil_of_length_eq_zero h0]; rfl
        · have := hall (t.length - 1) (by omega)
          rw [← this, List.length_cons, show t.length + 1 - 1 = (t.length - 1) + 1 by omega, List.getD_cons_succ]
      refine ⟨[], a :: t, by simp [grp_nil], by simp, rfl, ?_⟩
      rw [hlast]
      by_cases hx : lvAt lv x = lvAt lv a
      · rw [if_pos hx, if_pos hx.symm]
        rw [List.take_of_length_le (by simp), List.drop_eq_nil_of_le (by simp), grp_nil]
        simp
      · rw [if_neg hx, if_neg (Ne.symm hx)]
        rw [List.take_left, List.drop_left]
        simp [grp, spanN]
end Go.Proofs.Ythifeccmbojcdaa
