/- Clusters, by both. -/
import Derived.Test.YtpdackbcnbhppaaF1
namespace Go.Proofs.Ytpdackbcnbhppaa
open Go.RowKit

/-- Where clusters begin, of the first k characters. -/
def clusT (l : List Int) : Nat → List Int
  | 0 => []
  | k + 1 => if k = 0 ∨ begC (l.getD k 0) = true then clusT l k ++ [(k : Int)] else clusT l k
def clusL (l : List Int) : List Int := clusT l l.length

theorem clusT_length (l : List Int) : ∀ k, (clusT l k).length ≤ k
  | 0 => by simp [clusT]
  | k + 1 => by
    have := clusT_length l k
    unfold clusT
    split <;> simp <;> omega

theorem clusT_map (l : List Int) : ∀ k, k ≤ l.length → clusT (l.map clsC) k = clusT l k
  | 0, _ => rfl
  | k + 1, h => by
    have e : (l.map clsC).getD k 0 = clsC (l.getD k 0) := by
      simp only [List.getD_eq_getElem?_getD, List.getElem?_map]
      rw [List.getElem?_eq_getElem (by omega)]
      rfl
    simp only [clusT, e, begC_clsC, clusT_map l k (by omega)]
theorem clusL_map (l : List Int) : clusL (l.map clsC) = clusL l := by
  unfold clusL
  rw [List.length_map]
  exact clusT_map l _ (Nat.le_refl _)

theorem take_map_succ {f : Int → Int} {l : List Int} {j : Nat} (h : j < l.length) : (l.take (j + 1)).map f = (l.take j).map f ++ [f (l.getD j 0)] := by
  rw [List.take_add_one, List.getElem?_eq_getElem h, List.map_append]
  congr 1
  simp [List.getD_eq_getElem?_getD, h]

end Go.Proofs.Ytpdackbcnbhppaa
