/- insertionSort of pairs walked. -/
import Derived.Test.YtpdackbcnbhppaaQ5
import Derived.Deep.RegionHeld3
namespace Go.Proofs.Ytpdackbcnbhppaa
open Go.RowKit
attribute [local go_sem] Oper.semAt_some

theorem swp_parts (P S : List (Int × Int)) (x y : Int × Int) : swp (P ++ (y :: x :: S)) (P.length + 1) P.length = P ++ (x :: y :: S) := by
  refine ext_getD (by rw [swp_length]; simp) fun j hj => ?_
  rw [swp_get (by simp) (by simp)]
  by_cases h1 : j < P.length
  · rw [if_neg (by omega), if_neg (by omega), getD_left h1, getD_left h1]
  · rw [getD_right (l := P) (m := x :: y :: S) (by omega)]
    by_cases h2 : j = P.length
    · subst h2
      rw [if_pos rfl, getD_right (by omega), Nat.add_sub_cancel_left, Nat.sub_self]; rfl
    · rw [if_neg h2]
      by_cases h3 : j = P.length + 1
      · subst h3
        rw [if_pos rfl, getD_right (by omega), Nat.sub_self, Nat.add_sub_cancel_left]; rfl
      · rw [if_neg h3, getD_right (by omega)]
        obtain ⟨q, hq⟩ : ∃ q, j - P.length = q + 2 := ⟨j - P.length - 2, by omega⟩
        rw [hq]; rfl
theorem Prs.swp {W : World} {g : Nat} {D : List (Int × Int)} (h : Prs W g D) (i j : Nat) :
    Prs ((((W.setCell ⟨g, i * 2, none⟩ (.int .i64 (D.getD j (0, 0)).1)).setCell ⟨g, i * 2 + 1, none⟩ (.int .i64 (D.getD j (0, 0)).2)).setCell ⟨g, j * 2, none⟩ (.int .i64 (D.getD i (0, 0)).1)).setCell ⟨g, j * 2 + 1, none⟩ (.int .i64 (D.getD i (0, 0)).2)) g (Ytpdackbcnbhppaa.swp D i j) :=
  (h.set i (D.getD j (0, 0))).set j (D.getD i (0, 0))
/-- x is put among a sorted part, from its end: what stands ahead of it, and what it has passed. -/
theorem ins_done {x : Int × Int} {L G : List (Int × Int)} (hs : Srt (L ++ G)) (hG : ∀ y ∈ G, x.1 < y.1) (hL : ∀ y, L.getLast? = some y → y.1 ≤ x.1) : L ++ x :: G = ins x (L ++ G) := by
  refine (ins_mid (fun y hy => ?_) hG).symm
  rcases List.eq_nil_or_concat L with rfl | ⟨L', z, rfl⟩
  · cases hy
  · have hz := hL z (by simp)
    unfold Srt at hs
    rw [List.concat_eq_append, List.append_assoc, List.pairwise_append] at hs
    rw [List.concat_eq_append] at hy
    rcases List.mem_append.1 hy with h | h
    · have := hs.2.2 y h z (by simp); omega
    · simp at h; subst h; exact hz
end Go.Proofs.Ytpdackbcnbhppaa
