/- Stable sorting of pairs by their first number: insertion and merging, as plain functions. -/
namespace Go.Proofs.Ytpdackbcnbhppaa

/-- x behind all that are not greater. -/
def ins (x : Int × Int) : List (Int × Int) → List (Int × Int)
  | [] => [x]
  | y :: t => if y.1 ≤ x.1 then y :: ins x t else x :: y :: t
def ssort (l : List (Int × Int)) : List (Int × Int) := l.foldl (fun a x => ins x a) []
def mrg : List (Int × Int) → List (Int × Int) → List (Int × Int)
  | [], R => R
  | x :: L, [] => x :: L
  | x :: L, y :: R => if y.1 < x.1 then y :: mrg (x :: L) R else x :: mrg L (y :: R)
termination_by L R => L.length + R.length

def Srt (l : List (Int × Int)) : Prop := l.Pairwise (fun a b => a.1 ≤ b.1)

theorem mrg_nil : ∀ L : List (Int × Int), mrg L [] = L
  | [] => by rw [mrg]
  | x :: L => by rw [mrg]
theorem nil_mrg (R : List (Int × Int)) : mrg [] R = R := by rw [mrg]
theorem mrg_cons (x y : Int × Int) (L R : List (Int × Int)) : mrg (x :: L) (y :: R) = if y.1 < x.1 then y :: mrg (x :: L) R else x :: mrg L (y :: R) := by rw [mrg]

theorem ins_length (x : Int × Int) : ∀ l, (ins x l).length = l.length + 1
  | [] => rfl
  | y :: t => by
    unfold ins
    split
    · simp [ins_length x t]
    · simp
theorem ssort_snoc (l : List (Int × Int)) (x : Int × Int) : ssort (l ++ [x]) = ins x (ssort l) := by simp [ssort]
theorem snoc_ind {p : List (Int × Int) → Prop} (h0 : p []) (h1 : ∀ l x, p l → p (l ++ [x])) : ∀ l, p l := by
  intro l
  have : ∀ n (l : List (Int × Int)), l.length = n → p l := by
    intro n
    induction n with
    | zero => intro l hl; have := List.length_eq_zero_iff.1 hl; subst this; exact h0
    | succ n ih =>
      intro l hl
      have hne : l ≠ [] := by intro e; subst e; simp at hl
      rw [← List.dropLast_concat_getLast hne]
      exact h1 _ _ (ih _ (by simp [hl]))
  exact this _ l rfl
theorem ssort_length : ∀ l, (ssort l).length = l.length := by
  refine snoc_ind rfl fun l x h => ?_
  rw [ssort_snoc, ins_length, h]; simp
theorem mem_ins {x z : Int × Int} : ∀ {l : List (Int × Int)}, z ∈ ins x l ↔ z = x ∨ z ∈ l
  | [] => by simp [ins]
  | y :: t => by
    unfold ins
    split
    · rw [List.mem_cons, mem_ins, List.mem_cons]
      constructor
      · rintro (h | h | h)
        · exact .inr (.inl h)
        · exact .inl h
        · exact .inr (.inr h)
      · rintro (h | h | h)
        · exact .inr (.inl h)
        · exact .inl h
        · exact .inr (.inr h)
    · rw [List.mem_cons]
theorem mem_ssort {z : Int × Int} : ∀ l : List (Int × Int), z ∈ ssort l ↔ z ∈ l := by
  refine snoc_ind (by simp [ssort]) fun l x h => ?_
  rw [ssort_snoc, mem_ins, h, List.mem_append, List.mem_singleton]
  exact Or.comm
theorem ins_srt {x : Int × Int} : ∀ {l : List (Int × Int)}, Srt l → Srt (ins x l)
  | [], _ => by simp [ins, Srt]
  | y :: t, h => by
    unfold Srt at h
    rw [List.pairwise_cons] at h
    unfold ins
    split
    · rename_i hy
      unfold Srt
      rw [List.pairwise_cons]
      refine ⟨fun z hz => ?_, ins_srt h.2⟩
      rcases mem_ins.1 hz with rfl | hz
      · exact hy
      · exact h.1 z hz
    · rename_i hy
      unfold Srt
      rw [List.pairwise_cons, List.pairwise_cons]
      refine ⟨fun z hz => ?_, h⟩
      rcases List.mem_cons.1 hz with rfl | hz
      · omega
      · have := h.1 z hz; omega
theorem ssort_srt : ∀ l, Srt (ssort l) := by
  refine snoc_ind (by simp [ssort, Srt]) fun l x h => ?_
  rw [ssort_snoc]
  exact ins_srt h
/-- x stands behind all of those, and ahead of these. -/
theorem ins_mid {x : Int × Int} : ∀ {l r : List (Int × Int)}, (∀ y ∈ l, y.1 ≤ x.1) → (∀ y ∈ r, x.1 < y.1) → ins x (l ++ r) = l ++ x :: r
  | [], [], _, _ => rfl
  | [], y :: r, _, h => by
    have := h y List.mem_cons_self
    show ins x (y :: r) = x :: y :: r
    unfold ins
    rw [if_neg (by omega)]
  | y :: l, r, h, h2 => by
    have := h y List.mem_cons_self
    show ins x (y :: (l ++ r)) = y :: (l ++ x :: r)
    unfold ins
    rw [if_pos this, ins_mid (fun z hz => h z (List.mem_cons_of_mem _ hz)) h2]
/-- In a sorted list those that are not greater are a first part of it. -/
theorem srt_cut {x : Int × Int} : ∀ {l : List (Int × Int)}, Srt l → ∃ a b, l = a ++ b ∧ (∀ y ∈ a, y.1 ≤ x.1) ∧ (∀ y ∈ b, x.1 < y.1)
  | [], _ => ⟨[], [], rfl, by simp, by simp⟩
  | y :: t, h => by
    unfold Srt at h
    rw [List.pairwise_cons] at h
    by_cases hy : y.1 ≤ x.1
    · obtain ⟨a, b, rfl, ha, hb⟩ := srt_cut (x := x) h.2
      exact ⟨y :: a, b, rfl, fun z hz => by rcases List.mem_cons.1 hz with rfl | hz; exact hy; exact ha z hz, hb⟩
    · exact ⟨[], y :: t, rfl, by simp, fun z hz => by rcases List.mem_cons.1 hz with rfl | hz; omega; have := h.1 z hz; omega⟩

/-- Two pairs of parts merge apart. -/
theorem mrg_parts : ∀ (L1 R1 L2 R2 : List (Int × Int)), (∀ x ∈ L2, ∀ y ∈ R1, y.1 < x.1) → (∀ x ∈ L1, ∀ y ∈ R2, x.1 ≤ y.1) → mrg (L1 ++ L2) (R1 ++ R2) = mrg L1 R1 ++ mrg L2 R2
  | [], [], L2, R2, _, _ => by simp [nil_mrg]
  | [], y :: R1, [], R2, _, _ => by simp [nil_mrg]
  | [], y :: R1, x :: L2, R2, h1, h2 => by
    have h := h1 x List.mem_cons_self y List.mem_cons_self
    have ih := mrg_parts [] R1 (x :: L2) R2 (fun a ha b hb => h1 a ha b (List.mem_cons_of_mem _ hb)) (by simp)
    simp only [List.nil_append, nil_mrg] at ih ⊢
    rw [List.cons_append, mrg_cons, if_pos h, ih]
    rfl
  | x :: L1, [], L2, [], _, _ => by simp [mrg_nil]
  | x :: L1, [], L2, y :: R2, h1, h2 => by
    have h := h2 x List.mem_cons_self y List.mem_cons_self
    have ih := mrg_parts L1 [] L2 (y :: R2) (by simp) (fun a ha b hb => h2 a (List.mem_cons_of_mem _ ha) b hb)
    simp only [List.nil_append, mrg_nil] at ih ⊢
    rw [List.cons_append, mrg_cons, if_neg (by omega), ih]
    rfl
  | x :: L1, y :: R1, L2, R2, h1, h2 => by
    rw [List.cons_append, List.cons_append, mrg_cons, mrg_cons]
    by_cases h : y.1 < x.1
    · rw [if_pos h, if_pos h]
      have ih := mrg_parts (x :: L1) R1 L2 R2 (fun a ha b hb => h1 a ha b (List.mem_cons_of_mem _ hb)) h2
      rw [List.cons_append] at ih
      rw [ih]; rfl
    · rw [if_neg h, if_neg h]
      have ih := mrg_parts L1 (y :: R1) L2 R2 h1 (fun a ha b hb => h2 a (List.mem_cons_of_mem _ ha) b hb)
      rw [List.cons_append] at ih
      rw [ih]; rfl
termination_by L1 R1 L2 R2 => L1.length + R1.length + L2.length + R2.length
theorem mrg_one {x : Int × Int} {L : List (Int × Int)} (h : ∀ y ∈ L, y.1 ≤ x.1) : mrg L [x] = L ++ [x] := by
  have := mrg_parts L [] [] [x] (by simp) (fun a ha b hb => by simp at hb; subst hb; exact h a ha)
  simpa [mrg_nil, nil_mrg] using this
theorem one_mrg {x : Int × Int} {L : List (Int × Int)} (h : ∀ y ∈ L, x.1 < y.1) : mrg L [x] = x :: L := by
  have := mrg_parts [] [x] L [] (fun a ha b hb => by simp at hb; subst hb; exact h a ha) (by simp)
  simpa [mrg_nil, nil_mrg] using this
theorem left_mrg {x : Int × Int} {R : List (Int × Int)} (h : ∀ y ∈ R, x.1 ≤ y.1) : mrg [x] R = x :: R := by
  have := mrg_parts [x] [] [] R (by simp) (fun a ha b hb => by simp at ha; subst ha; exact h b hb)
  simpa [mrg_nil, nil_mrg] using this
theorem right_mrg {x : Int × Int} {R : List (Int × Int)} (h : ∀ y ∈ R, y.1 < x.1) : mrg [x] R = R ++ [x] := by
  have := mrg_parts [] R [x] [] (fun a ha b hb => by simp at ha; subst ha; exact h b hb) (by simp)
  simpa [mrg_nil, nil_mrg] using this

theorem mrg_ins : ∀ (n : Nat) (A B : List (Int × Int)) (x : Int × Int), A.length + B.length ≤ n → Srt A → Srt B → mrg A (ins x B) = ins x (mrg A B)
  | _, [], B, x, _, _, _ => by rw [nil_mrg, nil_mrg]
  | _, a :: A, [], x, _, hA, _ => by
    obtain ⟨p, q, e, hp, hq⟩ := srt_cut (x := x) hA
    rw [e, mrg_nil, ins_mid hp hq]
    show mrg (p ++ q) [x] = _
    have := mrg_parts p [] q [x] (by simp) (fun a ha b hb => by simp at hb; subst hb; exact hp a ha)
    simp only [List.nil_append, mrg_nil] at this
    rw [this, one_mrg hq]
  | 0, a :: A, b :: B, x, hn, _, _ => by simp at hn
  | n + 1, a :: A, b :: B, x, hn, hA, hB => by
    have hA' := hA
    have hB' := hB
    unfold Srt at hA' hB'
    rw [List.pairwise_cons] at hA' hB'
    simp only [List.length_cons] at hn
    by_cases hb : b.1 ≤ x.1
    · have e : ins x (b :: B) = b :: ins x B := by
        show (if b.1 ≤ x.1 then b :: ins x B else x :: b :: B) = _
        rw [if_pos hb]
      rw [e, mrg_cons, mrg_cons]
      by_cases h : b.1 < a.1
      · rw [if_pos h, if_pos h, mrg_ins n (a :: A) B x (by simp; omega) hA hB'.2]
        show _ = (if b.1 ≤ x.1 then b :: ins x (mrg (a :: A) B) else _)
        rw [if_pos hb]
      · rw [if_neg h, if_neg h]
        have ih := mrg_ins n A (b :: B) x (by simp; omega) hA'.2 hB
        rw [e] at ih
        rw [ih]
        show _ = (if a.1 ≤ x.1 then a :: ins x (mrg A (b :: B)) else _)
        rw [if_pos (by omega)]
    · have e : ins x (b :: B) = x :: b :: B := by
        show (if b.1 ≤ x.1 then b :: ins x B else x :: b :: B) = _
        rw [if_neg hb]
      rw [e]
      have hxB : ∀ y ∈ b :: B, x.1 < y.1 := by
        intro y hy
        rcases List.mem_cons.1 hy with rfl | hy
        · omega
        · have := hB'.1 y hy; omega
      obtain ⟨p, q, e2, hp, hq⟩ := srt_cut (x := x) hA
      rw [e2]
      have h1 := mrg_parts p [] q (b :: B) (by simp) (fun a ha c hc => by have := hp a ha; have := hxB c hc; omega)
      have h2 := mrg_parts p [] q (x :: b :: B) (by simp) (fun a ha c hc => by
        have := hp a ha
        rcases List.mem_cons.1 hc with rfl | hc
        · exact this
        · have := hxB c hc; omega)
      simp only [List.nil_append, mrg_nil] at h1 h2
      rw [h1, h2, ins_mid hp]
      · congr 1
        have h3 := mrg_parts [] [x] q (b :: B) (fun a ha c hc => by simp at hc; subst hc; exact hq a ha) (by simp)
        simp only [List.nil_append, nil_mrg] at h3
        exact h3
      · intro y hy
        have hm : ∀ (L R : List (Int × Int)) (y : Int × Int), y ∈ mrg L R → y ∈ L ∨ y ∈ R := by
          intro L R
          induction L, R using mrg.induct with
          | case1 R => intro y h; rw [nil_mrg] at h; exact .inr h
          | case2 x L => intro y h; rw [mrg_nil] at h; exact .inl h
          | case3 x L y R hlt ih =>
            intro z h
            rw [mrg_cons, if_pos hlt] at h
            rcases List.mem_cons.1 h with rfl | h
            · exact .inr List.mem_cons_self
            · rcases ih z h with h | h
              · exact .inl h
              · exact .inr (List.mem_cons_of_mem _ h)
          | case4 x L y R hlt ih =>
            intro z h
            rw [mrg_cons, if_neg hlt] at h
            rcases List.mem_cons.1 h with rfl | h
            · exact .inl List.mem_cons_self
            · rcases ih z h with h | h
              · exact .inl (List.mem_cons_of_mem _ h)
              · exact .inr h
        rcases hm _ _ _ hy with h | h
        · exact hq y h
        · exact hxB y h

/-- Two sorted parts, merged, are the whole, sorted. -/
theorem mrg_ssort (A : List (Int × Int)) : ∀ B, mrg (ssort A) (ssort B) = ssort (A ++ B) := by
  refine snoc_ind ?_ fun l x h => ?_
  · show mrg (ssort A) [] = _
    rw [mrg_nil, List.append_nil]
  · rw [ssort_snoc, mrg_ins _ _ _ _ (Nat.le_refl _) (ssort_srt A) (ssort_srt l), h, ← List.append_assoc, ssort_snoc]
end Go.Proofs.Ytpdackbcnbhppaa
