/- Stable sorting of pairs by their first number: insertion and merging, as plain functions. A row of pairs of numbers in a block: its cells, a pair that is stored, two that are exchanged, two ranges that are exchanged. swapRange of pairs walked. rotate of pairs walked. The comparison of two pairs walked. insertionSort of pairs walked. -/
import Derived.Test.YtpdackbcnbhppaaKit
import Derived.WalkKit
import Derived.BigRegion
import Derived.IntWalk
import Derived.Deep.RegionHeld3
namespace Go.Proofs.Ytpdackbcnbhppaa

/-- x behind all that are not greater. -/
def ins (x : Int × Int) : List (Int × Int) → List (Int × Int)
  | [] => [x]
  | y :: t => if y.1 ≤ x.1 then y :: ins x t else x :: y :: t
def ssort (l : List (Int × Int)) : List (Int × Int) := l.foldl (fun a x => ins x a) []
def mrg : List (Int × Int) → List (Int × Int) → List (Int × Int)
  | [], R => R
  | x :: L, [] => x :: L
  | x :: L, y :: R => if y.1 < x.1 then y :: mrg (x :: L) R else x :: mrg L (y :: R)
termination_by L R => L.length + R.length

def Srt (l : List (Int × Int)) : Prop := l.Pairwise (fun a b => a.1 ≤ b.1)

theorem mrg_nil : ∀ L : List (Int × Int), mrg L [] = L
  | [] => by rw [mrg]
  | x :: L => by rw [mrg]
theorem nil_mrg (R : List (Int × Int)) : mrg [] R = R := by rw [mrg]
theorem mrg_cons (x y : Int × Int) (L R : List (Int × Int)) : mrg (x :: L) (y :: R) = if y.1 < x.1 then y :: mrg (x :: L) R else x :: mrg L (y :: R) := by rw [mrg]

theorem ins_length (x : Int × Int) : ∀ l, (ins x l).length = l.length + 1
  | [] => rfl
  | y :: t => by
    unfold ins
    split
    · simp [ins_length x t]
    · simp
theorem ssort_snoc (l : List (Int × Int)) (x : Int × Int) : ssort (l ++ [x]) = ins x (ssort l) := by simp [ssort]
theorem snoc_ind {p : List (Int × Int) → Prop} (h0 : p []) (h1 : ∀ l x, p l → p (l ++ [x])) : ∀ l, p l := by
  intro l
  have : ∀ n (l : List (Int × Int)), l.length = n → p l := by
    intro n
    induction n with
    | zero => intro l hl; have := List.length_eq_zero_iff.1 hl; subst this; exact h0
    | succ n ih =>
      intro l hl
      have hne : l ≠ [] := by intro e; subst e; simp at hl
      rw [← List.dropLast_concat_getLast hne]
      exact h1 _ _ (ih _ (by simp [hl]))
  exact this _ l rfl
theorem ssort_length : ∀ l, (ssort l).length = l.length := by
  refine snoc_ind rfl fun l x h => ?_
  rw [ssort_snoc, ins_length, h]; simp
theorem mem_ins {x z : Int × Int} : ∀ {l : List (Int × Int)}, z ∈ ins x l ↔ z = x ∨ z ∈ l
  | [] => by simp [ins]
  | y :: t => by
    unfold ins
    split
    · rw [List.mem_cons, mem_ins, List.mem_cons]
      constructor
      · rintro (h | h | h)
        · exact .inr (.inl h)
        · exact .inl h
        · exact .inr (.inr h)
      · rintro (h | h | h)
        · exact .inr (.inl h)
        · exact .inl h
        · exact .inr (.inr h)
    · rw [List.mem_cons]
theorem mem_ssort {z : Int × Int} : ∀ l : List (Int × Int), z ∈ ssort l ↔ z ∈ l := by
  refine snoc_ind (by simp [ssort]) fun l x h => ?_
  rw [ssort_snoc, mem_ins, h, List.mem_append, List.mem_singleton]
  exact Or.comm
theorem ins_srt {x : Int × Int} : ∀ {l : List (Int × Int)}, Srt l → Srt (ins x l)
  | [], _ => by simp [ins, Srt]
  | y :: t, h => by
    unfold Srt at h
    rw [List.pairwise_cons] at h
    unfold ins
    split
    · rename_i hy
      unfold Srt
      rw [List.pairwise_cons]
      refine ⟨fun z hz => ?_, ins_srt h.2⟩
      rcases mem_ins.1 hz with rfl | hz
      · exact hy
      · exact h.1 z hz
    · rename_i hy
      unfold Srt
      rw [List.pairwise_cons, List.pairwise_cons]
      refine ⟨fun z hz => ?_, h⟩
      rcases List.mem_cons.1 hz with rfl | hz
      · omega
      · have := h.1 z hz; omega
theorem ssort_srt : ∀ l, Srt (ssort l) := by
  refine snoc_ind (by simp [ssort, Srt]) fun l x h => ?_
  rw [ssort_snoc]
  exact ins_srt h
/-- x stands behind all of those, and ahead of these. -/
theorem ins_mid {x : Int × Int} : ∀ {l r : List (Int × Int)}, (∀ y ∈ l, y.1 ≤ x.1) → (∀ y ∈ r, x.1 < y.1) → ins x (l ++ r) = l ++ x :: r
  | [], [], _, _ => rfl
  | [], y :: r, _, h => by
    have := h y List.mem_cons_self
    show ins x (y :: r) = x :: y :: r
    unfold ins
    rw [if_neg (by omega)]
  | y :: l, r, h, h2 => by
    have := h y List.mem_cons_self
    show ins x (y :: (l ++ r)) = y :: (l ++ x :: r)
    unfold ins
    rw [if_pos this, ins_mid (fun z hz => h z (List.mem_cons_of_mem _ hz)) h2]
/-- In a sorted list those that are not greater are a first part of it. -/
theorem srt_cut {x : Int × Int} : ∀ {l : List (Int × Int)}, Srt l → ∃ a b, l = a ++ b ∧ (∀ y ∈ a, y.1 ≤ x.1) ∧ (∀ y ∈ b, x.1 < y.1)
  | [], _ => ⟨[], [], rfl, by simp, by simp⟩
  | y :: t, h => by
    unfold Srt at h
    rw [List.pairwise_cons] at h
    by_cases hy : y.1 ≤ x.1
    · obtain ⟨a, b, rfl, ha, hb⟩ := srt_cut (x := x) h.2
      exact ⟨y :: a, b, rfl, fun z hz => by rcases List.mem_cons.1 hz with rfl | hz; exact hy; exact ha z hz, hb⟩
    · exact ⟨[], y :: t, rfl, by simp, fun z hz => by rcases List.mem_cons.1 hz with rfl | hz; omega; have := h.1 z hz; omega⟩

/-- Two pairs of parts merge apart. -/
theorem mrg_parts : ∀ (L1 R1 L2 R2 : List (Int × Int)), (∀ x ∈ L2, ∀ y ∈ R1, y.1 < x.1) → (∀ x ∈ L1, ∀ y ∈ R2, x.1 ≤ y.1) → mrg (L1 ++ L2) (R1 ++ R2) = mrg L1 R1 ++ mrg L2 R2
  | [], [], L2, R2, _, _ => by simp [nil_mrg]
  | [], y :: R1, [], R2, _, _ => by simp [nil_mrg]
  | [], y :: R1, x :: L2, R2, h1, h2 => by
    have h := h1 x List.mem_cons_self y List.mem_cons_self
    have ih := mrg_parts [] R1 (x :: L2) R2 (fun a ha b hb => h1 a ha b (List.mem_cons_of_mem _ hb)) (by simp)
    simp only [List.nil_append, nil_mrg] at ih ⊢
    rw [List.cons_append, mrg_cons, if_pos h, ih]
    rfl
  | x :: L1, [], L2, [], _, _ => by simp [mrg_nil]
  | x :: L1, [], L2, y :: R2, h1, h2 => by
    have h := h2 x List.mem_cons_self y List.mem_cons_self
    have ih := mrg_parts L1 [] L2 (y :: R2) (by simp) (fun a ha b hb => h2 a (List.mem_cons_of_mem _ ha) b hb)
    simp only [List.nil_append, mrg_nil] at ih ⊢
    rw [List.cons_append, mrg_cons, if_neg (by omega), ih]
    rfl
  | x :: L1, y :: R1, L2, R2, h1, h2 => by
    rw [List.cons_append, List.cons_append, mrg_cons, mrg_cons]
    by_cases h : y.1 < x.1
    · rw [if_pos h, if_pos h]
      have ih := mrg_parts (x :: L1) R1 L2 R2 (fun a ha b hb => h1 a ha b (List.mem_cons_of_mem _ hb)) h2
      rw [List.cons_append] at ih
      rw [ih]; rfl
    · rw [if_neg h, if_neg h]
      have ih := mrg_parts L1 (y :: R1) L2 R2 h1 (fun a ha b hb => h2 a (List.mem_cons_of_mem _ ha) b hb)
      rw [List.cons_append] at ih
      rw [ih]; rfl
termination_by L1 R1 L2 R2 => L1.length + R1.length + L2.length + R2.length
theorem mrg_one {x : Int × Int} {L : List (Int × Int)} (h : ∀ y ∈ L, y.1 ≤ x.1) : mrg L [x] = L ++ [x] := by
  have := mrg_parts L [] [] [x] (by simp) (fun a ha b hb => by simp at hb; subst hb; exact h a ha)
  simpa [mrg_nil, nil_mrg] using this
theorem one_mrg {x : Int × Int} {L : List (Int × Int)} (h : ∀ y ∈ L, x.1 < y.1) : mrg L [x] = x :: L := by
  have := mrg_parts [] [x] L [] (fun a ha b hb => by simp at hb; subst hb; exact h a ha) (by simp)
  simpa [mrg_nil, nil_mrg] using this
theorem left_mrg {x : Int × Int} {R : List (Int × Int)} (h : ∀ y ∈ R, x.1 ≤ y.1) : mrg [x] R = x :: R := by
  have := mrg_parts [x] [] [] R (by simp) (fun a ha b hb => by simp at ha; subst ha; exact h b hb)
  simpa [mrg_nil, nil_mrg] using this
theorem right_mrg {x : Int × Int} {R : List (Int × Int)} (h : ∀ y ∈ R, y.1 < x.1) : mrg [x] R = R ++ [x] := by
  have := mrg_parts [] R [x] [] (fun a ha b hb => by simp at ha; subst ha; exact h b hb) (by simp)
  simpa [mrg_nil, nil_mrg] using this

theorem mrg_ins : ∀ (n : Nat) (A B : List (Int × Int)) (x : Int × Int), A.length + B.length ≤ n → Srt A → Srt B → mrg A (ins x B) = ins x (mrg A B)
  | _, [], B, x, _, _, _ => by rw [nil_mrg, nil_mrg]
  | _, a :: A, [], x, _, hA, _ => by
    obtain ⟨p, q, e, hp, hq⟩ := srt_cut (x := x) hA
    rw [e, mrg_nil, ins_mid hp hq]
    show mrg (p ++ q) [x] = _
    have := mrg_parts p [] q [x] (by simp) (fun a ha b hb => by simp at hb; subst hb; exact hp a ha)
    simp only [List.nil_append, mrg_nil] at this
    rw [this, one_mrg hq]
  | 0, a :: A, b :: B, x, hn, _, _ => by simp at hn
  | n + 1, a :: A, b :: B, x, hn, hA, hB => by
    have hA' := hA
    have hB' := hB
    unfold Srt at hA' hB'
    rw [List.pairwise_cons] at hA' hB'
    simp only [List.length_cons] at hn
    by_cases hb : b.1 ≤ x.1
    · have e : ins x (b :: B) = b :: ins x B := by
        show (if b.1 ≤ x.1 then b :: ins x B else x :: b :: B) = _
        rw [if_pos hb]
      rw [e, mrg_cons, mrg_cons]
      by_cases h : b.1 < a.1
      · rw [if_pos h, if_pos h, mrg_ins n (a :: A) B x (by simp; omega) hA hB'.2]
        show _ = (if b.1 ≤ x.1 then b :: ins x (mrg (a :: A) B) else _)
        rw [if_pos hb]
      · rw [if_neg h, if_neg h]
        have ih := mrg_ins n A (b :: B) x (by simp; omega) hA'.2 hB
        rw [e] at ih
        rw [ih]
        show _ = (if a.1 ≤ x.1 then a :: ins x (mrg A (b :: B)) else _)
        rw [if_pos (by omega)]
    · have e : ins x (b :: B) = x :: b :: B := by
        show (if b.1 ≤ x.1 then b :: ins x B else x :: b :: B) = _
        rw [if_neg hb]
      rw [e]
      have hxB : ∀ y ∈ b :: B, x.1 < y.1 := by
        intro y hy
        rcases List.mem_cons.1 hy with rfl | hy
        · omega
        · have := hB'.1 y hy; omega
      obtain ⟨p, q, e2, hp, hq⟩ := srt_cut (x := x) hA
      rw [e2]
      have h1 := mrg_parts p [] q (b :: B) (by simp) (fun a ha c hc => by have := hp a ha; have := hxB c hc; omega)
      have h2 := mrg_parts p [] q (x :: b :: B) (by simp) (fun a ha c hc => by
        have := hp a ha
        rcases List.mem_cons.1 hc with rfl | hc
        · exact this
        · have := hxB c hc; omega)
      simp only [List.nil_append, mrg_nil] at h1 h2
      rw [h1, h2, ins_mid hp]
      · congr 1
        have h3 := mrg_parts [] [x] q (b :: B) (fun a ha c hc => by simp at hc; subst hc; exact hq a ha) (by simp)
        simp only [List.nil_append, nil_mrg] at h3
        exact h3
      · intro y hy
        have hm : ∀ (L R : List (Int × Int)) (y : Int × Int), y ∈ mrg L R → y ∈ L ∨ y ∈ R := by
          intro L R
          induction L, R using mrg.induct with
          | case1 R => intro y h; rw [nil_mrg] at h; exact .inr h
          | case2 x L => intro y h; rw [mrg_nil] at h; exact .inl h
          | case3 x L y R hlt ih =>
            intro z h
            rw [mrg_cons, if_pos hlt] at h
            rcases List.mem_cons.1 h with rfl | h
            · exact .inr List.mem_cons_self
            · rcases ih z h with h | h
              · exact .inl h
              · exact .inr (List.mem_cons_of_mem _ h)
          | case4 x L y R hlt ih =>
            intro z h
            rw [mrg_cons, if_neg hlt] at h
            rcases List.mem_cons.1 h with rfl | h
            · exact .inl List.mem_cons_self
            · rcases ih z h with h | h
              · exact .inl (List.mem_cons_of_mem _ h)
              · exact .inr h
        rcases hm _ _ _ hy with h | h
        · exact hq y h
        · exact hxB y h

/-- Two sorted parts, merged, are the whole, sorted. -/
theorem mrg_ssort (A : List (Int × Int)) : ∀ B, mrg (ssort A) (ssort B) = ssort (A ++ B) := by
  refine snoc_ind ?_ fun l x h => ?_
  · show mrg (ssort A) [] = _
    rw [mrg_nil, List.append_nil]
  · rw [ssort_snoc, mrg_ins _ _ _ _ (Nat.le_refl _) (ssort_srt A) (ssort_srt l), h, ← List.append_assoc, ssort_snoc]
end Go.Proofs.Ytpdackbcnbhppaa

namespace Go.Proofs.Ytpdackbcnbhppaa
open Go.RowKit

def brC (x : Int × Int) : List Value := [.int .i64 x.1, .int .i64 x.2]
theorem br_at : ∀ (D : List (Int × Int)) (i j : Nat), i < D.length → j < 2 → (D.flatMap brC)[i * 2 + j]? = (brC (D.getD i (0, 0)))[j]?
  | [], i, j, h, _ => by simp at h
  | a :: D, 0, j, _, hj => by
    rw [List.flatMap_cons, List.getElem?_append_left (by simp [brC]; omega)]
    simp
  | a :: D, i + 1, j, h, hj => by
    rw [List.flatMap_cons, List.getElem?_append_right (by simp [brC]; omega)]
    have := br_at D i j (by simpa using h) hj
    have e : (a :: D).getD (i + 1) (0, 0) = D.getD i (0, 0) := rfl
    rw [e, ← this]
    congr 1
    simp [brC]
    omega
theorem br_length : ∀ D : List (Int × Int), (D.flatMap brC).length = D.length * 2
  | [] => rfl
  | a :: D => by
    rw [List.flatMap_cons, List.length_append, br_length D]
    simp [brC]
    omega

/-- The block g holds the pairs D. -/
def Prs (W : World) (g : Nat) (D : List (Int × Int)) : Prop := ∃ cs : Array Value, Blk W g 65 cs ∧ D.length * 2 ≤ cs.size ∧ ∀ i, i < D.length → cs[i * 2]? = some (.int .i64 (D.getD i (0, 0)).1) ∧ cs[i * 2 + 1]? = some (.int .i64 (D.getD i (0, 0)).2)
section
variable {W W' : World} {g : Nat} {D : List (Int × Int)}
theorem Prs.lt (h : Prs W g D) : g < W.heap.size := by obtain ⟨cs, hb, _⟩ := h; exact hb.lt
theorem Prs.cell (h : Prs W g D) {i : Nat} (hi : i < D.length) : W.cell? ⟨g, i * 2, none⟩ = some (.int .i64 (D.getD i (0, 0)).1) ∧ W.cell? ⟨g, i * 2 + 1, none⟩ = some (.int .i64 (D.getD i (0, 0)).2) := by
  obtain ⟨cs, hb, _, hc⟩ := h
  rw [hb.cell, hb.cell]
  exact hc i hi
theorem Prs.free (h : Prs W g D) (j : Nat) : W.frozen? ⟨g, j, none⟩ = false := by obtain ⟨cs, hb, _⟩ := h; exact hb.frozen j
theorem Prs.frm {F : Nat → Prop} (h : Prs W g D) (hf : Frm F W W') (hn : ¬ F g) : Prs W' g D := by obtain ⟨cs, hb, h2, h3⟩ := h; exact ⟨cs, hb.frm hf hn, h2, h3⟩
theorem Prs.below {B : Nat} (h : Prs W g D) (hb : Below B W W') (hg : g < B) : Prs W' g D := by obtain ⟨cs, h1, h2, h3⟩ := h; exact ⟨cs, h1.below hb hg, h2, h3⟩
theorem Prs.drew (h : Prs W g D) : Prs W.drew g D := h
theorem Prs.drewN (h : Prs W g D) (n : Nat) : Prs (W.drewN n) g D := h
theorem Prs.alloc (h : Prs W g D) (o : Obj) : Prs (W.alloc o) g D := by obtain ⟨cs, h1, h2, h3⟩ := h; exact ⟨cs, h1.alloc o, h2, h3⟩
/-- A pair is stored. -/
theorem Prs.set (h : Prs W g D) (i : Nat) (x : Int × Int) : Prs ((W.setCell ⟨g, i * 2, none⟩ (.int .i64 x.1)).setCell ⟨g, i * 2 + 1, none⟩ (.int .i64 x.2)) g (D.set i x) := by
  obtain ⟨cs, hb, h2, h3⟩ := h
  refine ⟨_, (hb.set_ (i * 2) _).set_ (i * 2 + 1) _, by simpa using h2, fun k hk => ?_⟩
  rw [List.length_set] at hk
  have := h3 k hk
  rw [List.getD_eq_getElem?_getD, List.getElem?_set]
  by_cases hik : i = k
  · subst hik
    rw [if_pos rfl, if_pos hk]
    simp [Array.getElem?_setIfInBounds]
    omega
  · rw [if_neg hik, ← List.getD_eq_getElem?_getD]
    simp only [Array.getElem?_setIfInBounds]
    rw [if_neg (by omega), if_neg (by omega), if_neg (by omega), if_neg (by omega)]
    exact this
end

/-- Two places are exchanged. -/
def swp (D : List (Int × Int)) (i j : Nat) : List (Int × Int) := (D.set i (D.getD j (0, 0))).set j (D.getD i (0, 0))
theorem swp_length (D : List (Int × Int)) (i j : Nat) : (swp D i j).length = D.length := by simp [swp]
theorem swp_get {D : List (Int × Int)} {i j k : Nat} (hi : i < D.length) (hj : j < D.length) : (swp D i j).getD k (0, 0) = if k = j then D.getD i (0, 0) else if k = i then D.getD j (0, 0) else D.getD k (0, 0) := by
  have e : (swp D i j).getD k (0, 0) = ((swp D i j)[k]?).getD (0, 0) := List.getD_eq_getElem?_getD
  rw [e]
  unfold swp
  rw [List.getElem?_set, List.getElem?_set]
  by_cases h1 : j = k
  · subst h1; rw [if_pos rfl, if_pos rfl, if_pos (by simpa using hj)]; rfl
  · rw [if_neg (c := j = k) h1, if_neg (c := k = j) (fun e => h1 e.symm)]
    by_cases h2 : i = k
    · subst h2; rw [if_pos rfl, if_pos (c := i = i) rfl, if_pos hi]; rfl
    · rw [if_neg (c := i = k) h2, if_neg (c := k = i) (fun e => h2 e.symm)]
      exact List.getD_eq_getElem?_getD.symm
def swpR (D : List (Int × Int)) (a b : Nat) : Nat → List (Int × Int)
  | 0 => D
  | k + 1 => swp (swpR D a b k) (a + k) (b + k)
theorem swpR_length (D : List (Int × Int)) (a b : Nat) : ∀ k, (swpR D a b k).length = D.length
  | 0 => rfl
  | k + 1 => by unfold swpR; rw [swp_length, swpR_length D a b k]
theorem swpR_get {D : List (Int × Int)} {a b : Nat} : ∀ {k : Nat}, a + k ≤ b → b + k ≤ D.length → ∀ j, (swpR D a b k).getD j (0, 0) = if a ≤ j ∧ j < a + k then D.getD (j - a + b) (0, 0) else if b ≤ j ∧ j < b + k then D.getD (j - b + a) (0, 0) else D.getD j (0, 0)
  | 0, _, _, j => by rw [if_neg (by omega), if_neg (by omega)]; rfl
  | k + 1, h1, h2, j => by
    have ih := swpR_get (D := D) (a := a) (b := b) (k := k) (by omega) (by omega)
    unfold swpR
    rw [swp_get (by rw [swpR_length]; omega) (by rw [swpR_length]; omega)]
    by_cases e1 : j = b + k
    · subst e1
      rw [if_pos rfl, ih, if_neg (by omega), if_neg (by omega), if_neg (by omega), if_pos (by omega)]
      congr 1
      omega
    · rw [if_neg e1]
      by_cases e2 : j = a + k
      · subst e2
        rw [if_pos rfl, ih, if_neg (by omega), if_neg (by omega), if_pos (by omega)]
        congr 1
        omega
      · rw [if_neg e2, ih]
        by_cases e3 : a ≤ j ∧ j < a + k
        · rw [if_pos e3, if_pos (by omega)]
        · rw [if_neg e3, if_neg (c := a ≤ j ∧ j < a + (k + 1)) (by omega)]
          by_cases e4 : b ≤ j ∧ j < b + k
          · rw [if_pos e4, if_pos (by omega)]
          · rw [if_neg e4, if_neg (by omega)]
theorem ext_getD {l m : List (Int × Int)} (h : l.length = m.length) (hj : ∀ j, j < l.length → l.getD j (0, 0) = m.getD j (0, 0)) : l = m := by
  refine List.ext_getElem h fun j h1 h2 => ?_
  have := hj j h1
  rw [List.getD_eq_getElem?_getD, List.getD_eq_getElem?_getD, List.getElem?_eq_getElem h1, List.getElem?_eq_getElem h2] at this
  exact this
theorem getD_left {l m : List (Int × Int)} {j : Nat} (h : j < l.length) : (l ++ m).getD j (0, 0) = l.getD j (0, 0) := by
  rw [List.getD_eq_getElem?_getD, List.getElem?_append_left h, ← List.getD_eq_getElem?_getD]
theorem getD_right {l m : List (Int × Int)} {j : Nat} (h : l.length ≤ j) : (l ++ m).getD j (0, 0) = m.getD (j - l.length) (0, 0) := by
  rw [List.getD_eq_getElem?_getD, List.getElem?_append_right h, ← List.getD_eq_getElem?_getD]
/-- Two ranges of one length are exchanged. -/
theorem swpR_parts (P u Q v S : List (Int × Int)) (h : u.length = v.length) : swpR (P ++ (u ++ (Q ++ (v ++ S)))) P.length (P.length + u.length + Q.length) u.length = P ++ (v ++ (Q ++ (u ++ S))) := by
  refine ext_getD (by rw [swpR_length]; simp; omega) fun j hj => ?_
  rw [swpR_length] at hj
  rw [swpR_get (by omega) (by simp; omega)]
  simp only [List.length_append] at hj
  by_cases h1 : j < P.length
  · rw [if_neg (by omega), if_neg (by omega), getD_left h1, getD_left h1]
  · rw [getD_right (l := P) (m := v ++ (Q ++ (u ++ S))) (by omega)]
    by_cases h2 : j < P.length + u.length
    · rw [if_pos (by omega), getD_right (by omega), getD_right (by omega), getD_right (by omega), getD_left (by omega), getD_left (by omega)]
      congr 1
      omega
    · rw [if_neg (by omega), getD_right (l := v) (by omega)]
      by_cases h3 : j < P.length + u.length + Q.length
      · rw [if_neg (by omega), getD_right (by omega), getD_right (by omega), getD_left (by omega), getD_left (by omega)]
        congr 1
        omega
      · rw [getD_right (l := Q) (m := u ++ S) (by omega)]
        by_cases h4 : j < P.length + u.length + Q.length + u.length
        · rw [if_pos (by omega), getD_right (by omega), getD_left (by omega), getD_left (by omega)]
          congr 1
          omega
        · rw [if_neg (by omega), getD_right (by omega), getD_right (by omega), getD_right (by omega), getD_right (by omega), getD_right (l := u) (by omega)]
          congr 1
          omega
end Go.Proofs.Ytpdackbcnbhppaa

namespace Go.Proofs.Ytpdackbcnbhppaa
open Go.RowKit
attribute [local go_sem] Oper.semAt_some

set_option maxRecDepth 100000 in
set_option maxHeartbeats 4000000 in
theorem swapRange_ok {w : World} {g n cap a b k : Nat} {D : List (Int × Int)} (hn : n = D.length) (hP : Prs w g D) (h1 : a + k ≤ b) (h2 : b + k ≤ n) (hm : n ≤ 4611686018427387904) (fv : Value) :
    Calls Try.prog 109 #[.slice (some ⟨g, 0, none⟩) n cap, .int .i64 a, .int .i64 b, .int .i64 k, fv] w fun r w' => r = .returned (.tuple #[]) ∧ Prs w' g (swpR D a b k) ∧ Frm (fun j => j = g) w w' := by
  have HN := Lib.hid hn
  clear hn
  go_enter Try.func109, Try.ntmps109
  go_wp2
  go_loopg [10] k (fun gk iv wr => ∃ i : Nat, i + gk = k ∧ iv = .int .i64 i ∧ Prs wr g (swpR D a b i) ∧ Frm (fun j => j = g) w wr)
  case atStart => exact ⟨0, by omega, rfl, hP, Frm.refl _ _⟩
  case round =>
    clear hP
    obtain ⟨i, hi, rfl, hP, F⟩ := hrel
    have HI := Lib.hid hi
    clear hi
    by_cases hlt : i < k
    · have hl : (swpR D a b i).length = n := by rw [swpR_length]; exact HN.out.symm
      obtain ⟨x0, x1⟩ := hP.cell (i := a + i) (by omega)
      obtain ⟨y0, y1⟩ := hP.cell (i := b + i) (by omega)
      have fr := hP.free
      have hg := hP.lt
      have HL := Lib.hid hl
      clear hl
      have v1 : IntKind.i64.wrap ((a : Int) + (i : Int)) = (a : Int) + (i : Int) := IntWalk.i64_in _ (by omega)
      have v2 : IntKind.i64.wrap ((b : Int) + (i : Int)) = (b : Int) + (i : Int) := IntWalk.i64_in _ (by omega)
      have v3 : (0 : Int) ≤ (a : Int) + (i : Int) := by omega
      have v4 : (0 : Int) ≤ (b : Int) + (i : Int) := by omega
      have v5 : (a : Int) + (i : Int) < (n : Int) := by omega
      have v6 : (b : Int) + (i : Int) < (n : Int) := by omega
      have v7 : ((a : Int) + (i : Int)).toNat = a + i := by omega
      have v8 : ((b : Int) + (i : Int)).toNat = b + i := by omega
      go_wp2
      go_region
      all_goals
        go_wp2
        go_roundg (k - (i + 1))
        case rel =>
          have P2 := ((hP.set (a + i) ((swpR D a b i).getD (b + i) (0, 0))).set (b + i) ((swpR D a b i).getD (a + i) (0, 0))).drew
          exact ⟨i + 1, by have := HI.out; omega, by go_num, P2, ((((F.set rfl _).set rfl _).set rfl _).set rfl _).drew⟩
        case measure => have := HI.out; omega
    · have e : i = k := by have := HI.out; omega
      subst e
      go_wp2
      go_end0
      exact ⟨rfl, hP, F⟩
end Go.Proofs.Ytpdackbcnbhppaa

namespace Go.Proofs.Ytpdackbcnbhppaa
open Go.RowKit
attribute [local go_sem] Oper.semAt_some

theorem swapRange_z {w : World} {g n cap : Nat} {P u Q v S : List (Int × Int)} {A B K : Int} (hA : A = (P.length : Int)) (hB : B = ((P.length + u.length + Q.length : Nat) : Int)) (hK : K = (u.length : Int)) (hn : n = (P ++ (u ++ (Q ++ (v ++ S)))).length)
    (hP : Prs w g (P ++ (u ++ (Q ++ (v ++ S))))) (h : u.length = v.length) (hm : n ≤ 4611686018427387904) (fv : Value) :
    Calls Try.prog 109 #[.slice (some ⟨g, 0, none⟩) n cap, .int .i64 A, .int .i64 B, .int .i64 K, fv] w fun r w' => r = .returned (.tuple #[]) ∧ Prs w' g (P ++ (v ++ (Q ++ (u ++ S)))) ∧ Frm (fun j => j = g) w w' := by
  subst hA hB hK
  have := swapRange_ok (cap := cap) (a := P.length) (b := P.length + u.length + Q.length) (k := u.length) hn hP (by omega) (by rw [hn]; simp; omega) hm fv
  rw [swpR_parts _ _ _ _ _ h] at this
  exact this

set_option maxRecDepth 100000 in
set_option maxHeartbeats 4000000 in
theorem rotate_ok {w : World} {g n cap m : Nat} {P u v S : List (Int × Int)} {A M B : Int} (hA : A = (P.length : Int)) (hM : M = (m : Int)) (hm : m = P.length + u.length) (hB : B = ((P.length + u.length + v.length : Nat) : Int)) (hn : n = (P ++ (u ++ (v ++ S))).length)
    (hP : Prs w g (P ++ (u ++ (v ++ S)))) (hu : 0 < u.length) (hv : 0 < v.length) (hm2 : n ≤ 4611686018427387904) (fv : Value) :
    Calls Try.prog 108 #[.slice (some ⟨g, 0, none⟩) n cap, .int .i64 A, .int .i64 M, .int .i64 B, fv] w fun r w' => r = .returned (.tuple #[]) ∧ Prs w' g (P ++ (v ++ (u ++ S))) ∧ Frm (fun j => j = g) w w' := by
  subst hA hM hB
  have hlen : n = P.length + u.length + v.length + S.length := by rw [hn]; simp; omega
  have HM := Lib.hid hm
  have HL := Lib.hid hlen
  have e1 : IntKind.i64.wrap ((m : Int) - (P.length : Int)) = (u.length : Int) := by rw [IntWalk.i64_in _ (by omega)]; omega
  have e2 : IntKind.i64.wrap (((P.length + u.length + v.length : Nat) : Int) - (m : Int)) = (v.length : Int) := by rw [IntWalk.i64_in _ (by omega)]; omega
  obtain ⟨T, hT⟩ : ∃ T, P ++ (v ++ (u ++ S)) = T := ⟨_, rfl⟩
  rw [hT]
  have HT := Lib.hid hT
  have hTl : T.length = n := by rw [← hT, hlen]; simp; omega
  have HTL := Lib.hid hTl
  obtain ⟨bb, hbb⟩ : ∃ bb : Nat, P.length + u.length + v.length = bb := ⟨_, rfl⟩
  rw [hbb] at e2 ⊢
  obtain ⟨pl, hpl⟩ : ∃ pl : Nat, P.length = pl := ⟨_, rfl⟩
  obtain ⟨ul, hul⟩ : ∃ ul : Nat, u.length = ul := ⟨_, rfl⟩
  obtain ⟨vl, hvl⟩ : ∃ vl : Nat, v.length = vl := ⟨_, rfl⟩
  have hmle : m ≤ 4611686018427387904 := by omega
  have hble : bb ≤ 4611686018427387904 := by omega
  rw [hpl, hul] at e1
  rw [hvl] at e2
  rw [hpl]
  have HUL := Lib.hid hul
  have HVL := Lib.hid hvl
  have HPL := Lib.hid hpl
  clear hm hn hlen hT hTl hbb hpl hul hvl
  go_enter Try.func108, Try.ntmps108
  go_wp2
  clear e1 e2
  go_loopg [10, 11] (ul + vl) (fun gk iv jv wr => ∃ (P' u' v' S' : List (Int × Int)) (i j : Nat), gk = i + j ∧ u'.length = i ∧ v'.length = j ∧ iv = .int .i64 i ∧ jv = .int .i64 j ∧ P'.length + i = m ∧ 0 < i ∧ 0 < j ∧ P' ++ (v' ++ (u' ++ S')) = T ∧ Prs wr g (P' ++ (u' ++ (v' ++ S'))) ∧ Frm (fun j => j = g) w wr)
  case atStart => exact ⟨P, u, v, S, ul, vl, rfl, HUL.out, HVL.out, rfl, rfl, by have := HM.out; have := HUL.out; omega, by have := HUL.out; omega, by have := HVL.out; omega, HT.out, hP, Frm.refl _ _⟩
  case round =>
    clear hP
    obtain ⟨P', u', v', S', i, j, hgk, hui, hvj, rfl, rfl, hPm, hi0, hj0, hTT, hP, F⟩ := hrel
    have hle := congrArg List.length hTT
    simp only [List.length_append] at hle
    rw [HTL.out, hui, hvj] at hle
    have v1 : IntKind.i64.wrap ((m : Int) - (i : Int)) = ((P'.length : Nat) : Int) := by rw [IntWalk.i64_in _ (by omega)]; omega
    have hd := hP.lt
    obtain ⟨pl', hpl'⟩ : ∃ pl' : Nat, P'.length = pl' := ⟨_, rfl⟩
    rw [hpl'] at v1 hle hPm
    have hib : i ≤ 4611686018427387904 := by omega
    have hjb : j ≤ 4611686018427387904 := by omega
    have HGK := Lib.hid hgk
    have HUI := Lib.hid hui
    have HVJ := Lib.hid hvj
    have HPM := Lib.hid hPm
    have HTT := Lib.hid hTT
    have HLE := Lib.hid hle
    have HPL' := Lib.hid hpl'
    clear hgk hui hvj hPm hTT hle hpl'
    have hN : n = (P' ++ (u' ++ (v' ++ S'))).length := by have := HLE.out; have := HUI.out; have := HVJ.out; have := HPL'.out; simp; omega
    have HN := Lib.hid hN
    clear hN
    rcases Nat.lt_trichotomy i j with hlt | hlt | hlt
    · -- the second is longer
      obtain ⟨d, hd2⟩ : ∃ d : Nat, j - i = d := ⟨_, rfl⟩
      obtain ⟨c1, hc1⟩ : ∃ c1 : Nat, m + j = c1 := ⟨_, rfl⟩
      obtain ⟨c2, hc2⟩ : ∃ c2 : Nat, m + j - i = c2 := ⟨_, rfl⟩
      have hmj : m + j ≤ n := by have := HLE.out; have := HPM.out; omega
      have w1 : IntKind.i64.wrap ((m : Int) + (j : Int)) = (c1 : Int) := by rw [IntWalk.i64_in _ (by omega)]; omega
      have w2 : IntKind.i64.wrap ((c1 : Int) - (i : Int)) = (c2 : Int) := by rw [IntWalk.i64_in _ (by omega)]; omega
      have w3 : IntKind.i64.wrap ((j : Int) - (i : Int)) = (d : Int) := by rw [IntWalk.i64_in _ (by omega)]; omega
      have e : P' ++ (u' ++ (v' ++ S')) = P' ++ (u' ++ (v'.take d ++ (v'.drop d ++ S'))) := by rw [← List.append_assoc (v'.take d), List.take_append_drop]
      have hP2 : Prs wr g (P' ++ (u' ++ (v'.take d ++ (v'.drop d ++ S')))) := e ▸ hP
      have hN2 : n = (P' ++ (u' ++ (v'.take d ++ (v'.drop d ++ S')))).length := e ▸ HN.out
      have hA : (pl' : Int) = (P'.length : Int) := by have := HPL'.out; omega
      have hB : (c2 : Int) = ((P'.length + u'.length + (v'.take d).length : Nat) : Int) := by have := HPL'.out; have := HUI.out; have := HVJ.out; have := HPM.out; simp; omega
      have hK : (i : Int) = (u'.length : Int) := by have := HUI.out; omega
      have hll : u'.length = (v'.drop d).length := by have := HUI.out; have := HVJ.out; simp; omega
      have CT := swapRange_z (cap := cap) hA hB hK hN2 hP2 hll hm2 fv
      have HD := Lib.hid hd2
      clear e hP2 hN2 hA hB hK hll hd2 hc1 hc2
      go_wp2_with (go_at_call 109; refine CT.mono ?_; rintro r1 w1 ⟨rfl, P1, F1⟩)
      go_roundg (i + d)
      case rel =>
        exact ⟨P', v'.drop d, v'.take d, u' ++ S', i, d, rfl, by have := HVJ.out; have := HD.out; simp; omega, by have := HVJ.out; have := HD.out; simp; omega, rfl, rfl, by have := HPL'.out; have := HPM.out; omega, hi0, by have := HD.out; omega, by rw [← List.append_assoc (v'.take d), List.take_append_drop]; exact HTT.out, P1, F.trans F1 (fun _ _ h => h)⟩
      case measure => have := HGK.out; have := HD.out; omega
    · -- of one length: the last exchange
      subst hlt
      have hP2 : Prs wr g (P' ++ (u' ++ ([] ++ (v' ++ S')))) := hP
      have hN2 : n = (P' ++ (u' ++ ([] ++ (v' ++ S')))).length := HN.out
      have hA : (pl' : Int) = (P'.length : Int) := by have := HPL'.out; omega
      have hB : (m : Int) = ((P'.length + u'.length + ([] : List (Int × Int)).length : Nat) : Int) := by have := HPL'.out; have := HUI.out; have := HPM.out; simp; omega
      have hK : (i : Int) = (u'.length : Int) := by have := HUI.out; omega
      have hll : u'.length = v'.length := by have := HUI.out; have := HVJ.out; omega
      have CT := swapRange_z (cap := cap) hA hB hK hN2 hP2 hll hm2 fv
      clear hP2 hN2 hA hB hK hll
      go_wp2_with (go_at_call 109; refine CT.mono ?_; rintro r1 w1 ⟨rfl, P1, F1⟩)
      go_end0
      rw [List.nil_append, HTT.out] at P1
      exact ⟨rfl, P1, F.trans F1 (fun _ _ h => h)⟩
    · -- the first is longer
      obtain ⟨d, hd2⟩ : ∃ d : Nat, i - j = d := ⟨_, rfl⟩
      have w3 : IntKind.i64.wrap ((i : Int) - (j : Int)) = (d : Int) := by rw [IntWalk.i64_in _ (by omega)]; omega
      have e : P' ++ (u' ++ (v' ++ S')) = P' ++ (u'.take j ++ (u'.drop j ++ (v' ++ S'))) := by rw [← List.append_assoc (u'.take j), List.take_append_drop]
      have hP2 : Prs wr g (P' ++ (u'.take j ++ (u'.drop j ++ (v' ++ S')))) := e ▸ hP
      have hN2 : n = (P' ++ (u'.take j ++ (u'.drop j ++ (v' ++ S')))).length := e ▸ HN.out
      have hA : (pl' : Int) = (P'.length : Int) := by have := HPL'.out; omega
      have hB : (m : Int) = ((P'.length + (u'.take j).length + (u'.drop j).length : Nat) : Int) := by have := HPL'.out; have := HUI.out; have := HPM.out; simp; omega
      have hK : (j : Int) = ((u'.take j).length : Int) := by have := HUI.out; simp; omega
      have hll : (u'.take j).length = v'.length := by have := HUI.out; have := HVJ.out; simp; omega
      have CT := swapRange_z (cap := cap) hA hB hK hN2 hP2 hll hm2 fv
      have HD := Lib.hid hd2
      clear e hP2 hN2 hA hB hK hll hd2
      go_wp2_with (go_at_call 109; refine CT.mono ?_; rintro r1 w1 ⟨rfl, P1, F1⟩)
      go_roundg (d + j)
      case rel =>
        exact ⟨P' ++ v', u'.drop j, u'.take j, S', d, j, rfl, by have := HUI.out; have := HD.out; simp; omega, by have := HUI.out; have := HD.out; simp; omega, rfl, rfl, by have := HPL'.out; have := HPM.out; have := HVJ.out; have := HD.out; simp; omega, by have := HD.out; omega, hj0, by rw [List.append_assoc, ← List.append_assoc (u'.take j), List.take_append_drop]; exact HTT.out, by rw [List.append_assoc]; exact P1, F.trans F1 (fun _ _ h => h)⟩
      case measure => have := HGK.out; have := HD.out; omega
end Go.Proofs.Ytpdackbcnbhppaa

namespace Go.Proofs.Ytpdackbcnbhppaa
open Go.RowKit
attribute [local go_sem] Oper.semAt_some

def cmpI (a c : Int) : Int := if a < c then -1 else if c < a then 1 else 0
theorem cmpI_neg (a c : Int) : cmpI a c < 0 ↔ a < c := by unfold cmpI; split <;> (try split) <;> omega
set_option maxRecDepth 100000 in
set_option maxHeartbeats 1000000 in
theorem cmp_ok (w : World) (x y : Int × Int) : Calls Try.prog 77 #[.agg #[.int .i64 x.1, .int .i64 x.2], .agg #[.int .i64 y.1, .int .i64 y.2]] w fun r w' => r = .returned (.int .i64 (cmpI x.1 y.1)) ∧ Below w.heap.size w w' := by
  obtain ⟨a, b⟩ := x
  obtain ⟨c, d⟩ := y
  unfold cmpI
  simp only
  by_cases h1 : a < c
  · rw [if_pos h1]
    go_enter Try.func77, Try.ntmps77
    go_wp2
    go_ret
    exact ⟨rfl, ((Below.refl _ _).alloc (Nat.le_refl _) _).alloc (by simp) _⟩
  · rw [if_neg h1]
    by_cases h2 : c < a
    · rw [if_pos h2]
      go_enter Try.func77, Try.ntmps77
      go_wp2
      go_ret
      exact ⟨rfl, ((Below.refl _ _).alloc (Nat.le_refl _) _).alloc (by simp) _⟩
    · rw [if_neg h2]
      go_enter Try.func77, Try.ntmps77
      go_wp2
      go_ret
      exact ⟨rfl, ((Below.refl _ _).alloc (Nat.le_refl _) _).alloc (by simp) _⟩
end Go.Proofs.Ytpdackbcnbhppaa

namespace Go.Proofs.Ytpdackbcnbhppaa
open Go.RowKit
attribute [local go_sem] Oper.semAt_some

theorem swp_parts (P S : List (Int × Int)) (x y : Int × Int) : swp (P ++ (y :: x :: S)) (P.length + 1) P.length = P ++ (x :: y :: S) := by
  refine ext_getD (by rw [swp_length]; simp) fun j hj => ?_
  rw [swp_get (by simp) (by simp)]
  by_cases h1 : j < P.length
  · rw [if_neg (by omega), if_neg (by omega), getD_left h1, getD_left h1]
  · rw [getD_right (l := P) (m := x :: y :: S) (by omega)]
    by_cases h2 : j = P.length
    · subst h2
      rw [if_pos rfl, getD_right (by omega), Nat.add_sub_cancel_left, Nat.sub_self]; rfl
    · rw [if_neg h2]
      by_cases h3 : j = P.length + 1
      · subst h3
        rw [if_pos rfl, getD_right (by omega), Nat.sub_self, Nat.add_sub_cancel_left]; rfl
      · rw [if_neg h3, getD_right (by omega)]
        obtain ⟨q, hq⟩ : ∃ q, j - P.length = q + 2 := ⟨j - P.length - 2, by omega⟩
        rw [hq]; rfl
theorem Prs.swp {W : World} {g : Nat} {D : List (Int × Int)} (h : Prs W g D) (i j : Nat) :
    Prs ((((W.setCell ⟨g, i * 2, none⟩ (.int .i64 (D.getD j (0, 0)).1)).setCell ⟨g, i * 2 + 1, none⟩ (.int .i64 (D.getD j (0, 0)).2)).setCell ⟨g, j * 2, none⟩ (.int .i64 (D.getD i (0, 0)).1)).setCell ⟨g, j * 2 + 1, none⟩ (.int .i64 (D.getD i (0, 0)).2)) g (Ytpdackbcnbhppaa.swp D i j) :=
  (h.set i (D.getD j (0, 0))).set j (D.getD i (0, 0))
/-- x is put among a sorted part, from its end: what stands ahead of it, and what it has passed. -/
theorem ins_done {x : Int × Int} {L G : List (Int × Int)} (hs : Srt (L ++ G)) (hG : ∀ y ∈ G, x.1 < y.1) (hL : ∀ y, L.getLast? = some y → y.1 ≤ x.1) : L ++ x :: G = ins x (L ++ G) := by
  refine (ins_mid (fun y hy => ?_) hG).symm
  rcases List.eq_nil_or_concat L with rfl | ⟨L', z, rfl⟩
  · cases hy
  · have hz := hL z (by simp)
    unfold Srt at hs
    rw [List.concat_eq_append, List.append_assoc, List.pairwise_append] at hs
    rw [List.concat_eq_append] at hy
    rcases List.mem_append.1 hy with h | h
    · have := hs.2.2 y h z (by simp); omega
    · simp at h; subst h; exact hz
end Go.Proofs.Ytpdackbcnbhppaa
