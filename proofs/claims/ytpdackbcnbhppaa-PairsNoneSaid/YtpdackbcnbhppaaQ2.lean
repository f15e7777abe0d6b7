/- A row of pairs of numbers in a block: its cells, a pair that is stored, two that are exchanged, two ranges that are exchanged. -/
import Derived.Test.YtpdackbcnbhppaaKit
import Derived.Test.YtpdackbcnbhppaaQ1
namespace Go.Proofs.Ytpdackbcnbhppaa
open Go.RowKit

def brC (x : Int × Int) : List Value := [.int .i64 x.1, .int .i64 x.2]
theorem br_at : ∀ (D : List (Int × Int)) (i j : Nat), i < D.length → j < 2 → (D.flatMap brC)[i * 2 + j]? = (brC (D.getD i (0, 0)))[j]?
  | [], i, j, h, _ => by simp at h
  | a :: D, 0, j, _, hj => by
    rw [List.flatMap_cons, List.getElem?_append_left (by simp [brC]; omega)]
    simp
  | a :: D, i + 1, j, h, hj => by
    rw [List.flatMap_cons, List.getElem?_append_right (by simp [brC]; omega)]
    have := br_at D i j (by simpa using h) hj
    have e : (a :: D).getD (i + 1) (0, 0) = D.getD i (0, 0) := rfl
    rw [e, ← this]
    congr 1
    simp [brC]
    omega
theorem br_length : ∀ D : List (Int × Int), (D.flatMap brC).length = D.length * 2
  | [] => rfl
  | a :: D => by
    rw [List.flatMap_cons, List.length_append, br_length D]
    simp [brC]
    omega

/-- The block g holds the pairs D. -/
def Prs (W : World) (g : Nat) (D : List (Int × Int)) : Prop := ∃ cs : Array Value, Blk W g 65 cs ∧ D.length * 2 ≤ cs.size ∧ ∀ i, i < D.length → cs[i * 2]? = some (.int .i64 (D.getD i (0, 0)).1) ∧ cs[i * 2 + 1]? = some (.int .i64 (D.getD i (0, 0)).2)
section
variable {W W' : World} {g : Nat} {D : List (Int × Int)}
theorem Prs.lt (h : Prs W g D) : g < W.heap.size := by obtain ⟨cs, hb, _⟩ := h; exact hb.lt
theorem Prs.cell (h : Prs W g D) {i : Nat} (hi : i < D.length) : W.cell? ⟨g, i * 2, none⟩ = some (.int .i64 (D.getD i (0, 0)).1) ∧ W.cell? ⟨g, i * 2 + 1, none⟩ = some (.int .i64 (D.getD i (0, 0)).2) := by
  obtain ⟨cs, hb, _, hc⟩ := h
  rw [hb.cell, hb.cell]
  exact hc i hi
theorem Prs.free (h : Prs W g D) (j : Nat) : W.frozen? ⟨g, j, none⟩ = false := by obtain ⟨cs, hb, _⟩ := h; exact hb.frozen j
theorem Prs.frm {F : Nat → Prop} (h : Prs W g D) (hf : Frm F W W') (hn : ¬ F g) : Prs W' g D := by obtain ⟨cs, hb, h2, h3⟩ := h; exact ⟨cs, hb.frm hf hn, h2, h3⟩
theorem Prs.below {B : Nat} (h : Prs W g D) (hb : Below B W W') (hg : g < B) : Prs W' g D := by obtain ⟨cs, h1, h2, h3⟩ := h; exact ⟨cs, h1.below hb hg, h2, h3⟩
theorem Prs.drew (h : Prs W g D) : Prs W.drew g D := h
theorem Prs.drewN (h : Prs W g D) (n : Nat) : Prs (W.drewN n) g D := h
theorem Prs.alloc (h : Prs W g D) (o : Obj) : Prs (W.alloc o) g D := by obtain ⟨cs, h1, h2, h3⟩ := h; exact ⟨cs, h1.alloc o, h2, h3⟩
/-- A pair is stored. -/
theorem Prs.set (h : Prs W g D) (i : Nat) (x : Int × Int) : Prs ((W.setCell ⟨g, i * 2, none⟩ (.int .i64 x.1)).setCell ⟨g, i * 2 + 1, none⟩ (.int .i64 x.2)) g (D.set i x) := by
  obtain ⟨cs, hb, h2, h3⟩ := h
  refine ⟨_, (hb.set_ (i * 2) _).set_ (i * 2 + 1) _, by simpa using h2, fun k hk => ?_⟩
  rw [List.length_set] at hk
  have := h3 k hk
  rw [List.getD_eq_getElem?_getD, List.getElem?_set]
  by_cases hik : i = k
  · subst hik
    rw [if_pos rfl, if_pos hk]
    simp [Array.getElem?_setIfInBounds]
    omega
  · rw [if_neg hik, ← List.getD_eq_getElem?_getD]
    simp only [Array.getElem?_setIfInBounds]
    rw [if_neg (by omega), if_neg (by omega), if_neg (by omega), if_neg (by omega)]
    exact this
end

/-- Two places are exchanged. -/
def swp (D : List (Int × Int)) (i j : Nat) : List (Int × Int) := (D.set i (D.getD j (0, 0))).set j (D.getD i (0, 0))
theorem swp_length (D : List (Int × Int)) (i j : Nat) : (swp D i j).length = D.length := by simp [swp]
theorem swp_get {D : List (Int × Int)} {i j k : Nat} (hi : i < D.length) (hj : j < D.length) : (swp D i j).getD k (0, 0) = if k = j then D.getD i (0, 0) else if k = i then D.getD j (0, 0) else D.getD k (0, 0) := by
  have e : (swp D i j).getD k (0, 0) = ((swp D i j)[k]?).getD (0, 0) := List.getD_eq_getElem?_getD
  rw [e]
  unfold swp
  rw [List.getElem?_set, List.getElem?_set]
  by_cases h1 : j = k
  · subst h1; rw [if_pos rfl, if_pos rfl, if_pos (by simpa using hj)]; rfl
  · rw [if_neg (c := j = k) h1, if_neg (c := k = j) (fun e => h1 e.symm)]
    by_cases h2 : i = k
    · subst h2; rw [if_pos rfl, if_pos (c := i = i) rfl, if_pos hi]; rfl
    · rw [if_neg (c := i = k) h2, if_neg (c := k = i) (fun e => h2 e.symm)]
      exact List.getD_eq_getElem?_getD.symm
def swpR (D : List (Int × Int)) (a b : Nat) : Nat → List (Int × Int)
  | 0 => D
  | k + 1 => swp (swpR D a b k) (a + k) (b + k)
theorem swpR_length (D : List (Int × Int)) (a b : Nat) : ∀ k, (swpR D a b k).length = D.length
  | 0 => rfl
  | k + 1 => by unfold swpR; rw [swp_length, swpR_length D a b k]
theorem swpR_get {D : List (Int × Int)} {a b : Nat} : ∀ {k : Nat}, a + k ≤ b → b + k ≤ D.length → ∀ j, (swpR D a b k).getD j (0, 0) = if a ≤ j ∧ j < a + k then D.getD (j - a + b) (0, 0) else if b ≤ j ∧ j < b + k then D.getD (j - b + a) (0, 0) else D.getD j (0, 0)
  | 0, _, _, j => by rw [if_neg (by omega), if_neg (by omega)]; rfl
  | k + 1, h1, h2, j => by
    have ih := swpR_get (D := D) (a := a) (b := b) (k := k) (by omega) (by omega)
    unfold swpR
    rw [swp_get (by rw [swpR_length]; omega) (by rw [swpR_length]; omega)]
    by_cases e1 : j = b + k
    · subst e1
      rw [if_pos rfl, ih, if_neg (by omega), if_neg (by omega), if_neg (by omega), if_pos (by omega)]
      congr 1
      omega
    · rw [if_neg e1]
      by_cases e2 : j = a + k
      · subst e2
        rw [if_pos rfl, ih, if_neg (by omega), if_neg (by omega), if_pos (by omega)]
        congr 1
        omega
      · rw [if_neg e2, ih]
        by_cases e3 : a ≤ j ∧ j < a + k
        · rw [if_pos e3, if_pos (by omega)]
        · rw [if_neg e3, if_neg (c := a ≤ j ∧ j < a + (k + 1)) (by omega)]
          by_cases e4 : b ≤ j ∧ j < b + k
          · rw [if_pos e4, if_pos (by omega)]
          · rw [if_neg e4, if_neg (by omega)]
theorem ext_getD {l m : List (Int × Int)} (h : l.length = m.length) (hj : ∀ j, j < l.length → l.getD j (0, 0) = m.getD j (0, 0)) : l = m := by
  refine List.ext_getElem h fun j h1 h2 => ?_
  have := hj j h1
  rw [List.getD_eq_getElem?_getD, List.getD_eq_getElem?_getD, List.getElem?_eq_getElem h1, List.getElem?_eq_getElem h2] at this
  exact this
theorem getD_left {l m : List (Int × Int)} {j : Nat} (h : j < l.length) : (l ++ m).getD j (0, 0) = l.getD j (0, 0) := by
  rw [List.getD_eq_getElem?_getD, List.getElem?_append_left h, ← List.getD_eq_getElem?_getD]
theorem getD_right {l m : List (Int × Int)} {j : Nat} (h : l.length ≤ j) : (l ++ m).getD j (0, 0) = m.getD (j - l.length) (0, 0) := by
  rw [List.getD_eq_getElem?_getD, List.getElem?_append_right h, ← List.getD_eq_getElem?_getD]
/-- Two ranges of one length are exchanged. -/
theorem swpR_parts (P u Q v S : List (Int × Int)) (h : u.length = v.length) : swpR (P ++ (u ++ (Q ++ (v ++ S)))) P.length (P.length + u.length + Q.length) u.length = P ++ (v ++ (Q ++ (u ++ S))) := by
  refine ext_getD (by rw [swpR_length]; simp; omega) fun j hj => ?_
  rw [swpR_length] at hj
  rw [swpR_get (by omega) (by simp; omega)]
  simp only [List.length_append] at hj
  by_cases h1 : j < P.length
  · rw [if_neg (by omega), if_neg (by omega), getD_left h1, getD_left h1]
  · rw [getD_right (l := P) (m := v ++ (Q ++ (u ++ S))) (by omega)]
    by_cases h2 : j < P.length + u.length
    · rw [if_pos (by omega), getD_right (by omega), getD_right (by omega), getD_right (by omega), getD_left (by omega), getD_left (by omega)]
      congr 1
      omega
    · rw [if_neg (by omega), getD_right (l := v) (by omega)]
      by_cases h3 : j < P.length + u.length + Q.length
      · rw [if_neg (by omega), getD_right (by omega), getD_right (by omega), getD_left (by omega), getD_left (by omega)]
        congr 1
        omega
      · rw [getD_right (l := Q) (m := u ++ S) (by omega)]
        by_cases h4 : j < P.length + u.length + Q.length + u.length
        · rw [if_pos (by omega), getD_right (by omega), getD_left (by omega), getD_left (by omega)]
          congr 1
          omega
        · rw [if_neg (by omega), getD_right (by omega), getD_right (by omega), getD_right (by omega), getD_right (by omega), getD_right (l := u) (by omega)]
          congr 1
          omega
end Go.Proofs.Ytpdackbcnbhppaa
