/- Removed characters put in anywhere: what the statement builds, and that it is such a list; places of sequences; a place that is stored. -/
import Derived.Test.YthifeccmbojcdaaV2
import Derived.Test.YthifeccmbojcdaaT10
namespace Go.Proofs.Ythifeccmbojcdaa
open Go.RowKit

def cI (l : List Int) (K : Nat → Nat) (X : Nat → Int) : Nat → List Int
  | 0 => []
  | i + 1 => cI l K X i ++ List.replicate (K i) (X i) ++ [l.getD i 0]
def vI (lv : List Int) (K : Nat → Nat) : Nat → List Int
  | 0 => []
  | i + 1 => vI lv K i ++ List.replicate (K i) (-1) ++ (if i < lv.length then [lv.getD i 0] else [])
def poI (l : List Int) (K : Nat → Nat) (X : Nat → Int) (a : Nat) : Nat := (cI l K X a).length + K a
def tI (l : List Int) (K : Nat → Nat) (X : Nat → Int) : Nat → List Int
  | 0 => []
  | i + 1 => tI l K X i ++ [((poI l K X i : Nat) : Int)]

section
variable {l lv : List Int} {K : Nat → Nat} {X : Nat → Int}
theorem cI_succ (i : Nat) : (cI l K X (i + 1)).length = poI l K X i + 1 := by simp [cI, poI]; omega
theorem cI_mono : ∀ {a b : Nat}, a ≤ b → (cI l K X a).length ≤ (cI l K X b).length
  | a, 0, h => by have : a = 0 := by omega
                  subst this; exact Nat.le_refl _
  | a, b + 1, h => by
    rcases Nat.lt_or_eq_of_le h with h1 | h1
    · have := cI_mono (a := a) (b := b) (by omega)
      have := cI_succ (l := l) (K := K) (X := X) b
      unfold poI at this
      omega
    · subst h1; exact Nat.le_refl _
theorem poI_mono {a b : Nat} (h : a < b) : poI l K X a < poI l K X b := by
  have h1 := cI_succ (l := l) (K := K) (X := X) a
  have h2 := cI_mono (l := l) (K := K) (X := X) (a := a + 1) (b := b) h
  have : (cI l K X b).length ≤ poI l K X b := by unfold poI; omega
  omega
theorem poI_lt {a n : Nat} (h : a < n) : poI l K X a < (cI l K X n).length := by
  have h1 := cI_succ (l := l) (K := K) (X := X) a
  have h2 := cI_mono (l := l) (K := K) (X := X) (a := a + 1) (b := n) h
  omega
theorem cI_bound : ∀ n, (∀ i, K i ≤ 3) → (cI l K X n).length ≤ 4 * n
  | 0, _ => by simp [cI]
  | n + 1, h => by
    have := cI_bound n h
    have := h n
    have e := cI_succ (l := l) (K := K) (X := X) n
    unfold poI at e
    omega
theorem cI_pre {x d : Int} (j : Nat) : ∀ {a b : Nat}, a ≤ b → j < (cI l K X a).length → (cI l K X b).getD j d = (cI l K X a).getD j d
  | a, 0, h, _ => by have : a = 0 := by omega
                     subst this; rfl
  | a, b + 1, h, hj => by
    rcases Nat.lt_or_eq_of_le h with h1 | h1
    · have h2 := cI_mono (l := l) (K := K) (X := X) (a := a) (b := b) (by omega)
      rw [← cI_pre (x := x) j (a := a) (b := b) (by omega) hj]
      show (cI l K X b ++ List.replicate (K b) (X b) ++ [l.getD b 0]).getD j d = _
      rw [List.append_assoc, List.getD_eq_getElem?_getD, List.getElem?_append_left (by omega), ← List.getD_eq_getElem?_getD]
    · subst h1; rfl
theorem cI_at {a n : Nat} (h : a < n) : (cI l K X n).getD (poI l K X a) 0 = l.getD a 0 := by
  rw [cI_pre (x := 0) (poI l K X a) (a := a + 1) (b := n) h (by rw [cI_succ]; omega)]
  unfold cI
  rw [List.getD_eq_getElem?_getD, List.getElem?_append_right (by simp [poI])]
  simp [poI]
theorem cI_rem (hX : ∀ i, remC (X i) = true) : ∀ {n b : Nat}, b < (cI l K X n).length → (∃ a, a < n ∧ poI l K X a = b) ∨ remC ((cI l K X n).getD b 0) = true
  | 0, b, h => by simp [cI] at h
  | n + 1, b, h => by
    rw [cI_succ] at h
    rcases Nat.lt_or_ge b (cI l K X n).length with h1 | h1
    · rcases cI_rem hX h1 with ⟨a, h2, h3⟩ | h2
      · exact .inl ⟨a, by omega, h3⟩
      · rw [cI_pre (x := 0) b (a := n) (b := n + 1) (by omega) h1]
        exact .inr h2
    · rcases Nat.lt_or_eq_of_le (show b ≤ poI l K X n by omega) with h2 | h2
      · refine .inr ?_
        unfold poI at h2
        unfold cI
        rw [List.getD_eq_getElem?_getD, List.getElem?_append_left (by simp; omega), List.getElem?_append_right h1, List.getElem?_replicate, if_pos (by omega)]
        exact hX n
      · exact .inl ⟨n, by omega, h2.symm⟩
theorem vI_len : ∀ {i : Nat}, i ≤ lv.length → (vI lv K i).length = (cI l K X i).length
  | 0, _ => rfl
  | i + 1, h => by
    have := vI_len (i := i) (by omega)
    rw [cI_succ]
    unfold vI poI
    rw [if_pos (by omega)]
    simp
    omega
theorem vI_more : ∀ {i : Nat}, (vI lv K i).length + (i - lv.length) = (cI l K X i).length
  | 0 => by simp [vI, cI]
  | i + 1 => by
    have := vI_more (i := i)
    rw [cI_succ]
    unfold vI poI
    split
    · simp; omega
    · simp; omega
theorem vI_mono : ∀ {a b : Nat}, a ≤ b → (vI lv K a).length ≤ (vI lv K b).length
  | a, 0, h => by have : a = 0 := by omega
                  subst this; exact Nat.le_refl _
  | a, b + 1, h => by
    rcases Nat.lt_or_eq_of_le h with h1 | h1
    · have := vI_mono (a := a) (b := b) (by omega)
      have e : (vI lv K (b + 1)).length = (vI lv K b ++ List.replicate (K b) (-1) ++ (if b < lv.length then [lv.getD b 0] else [])).length := rfl
      rw [e, List.length_append, List.length_append]
      omega
    · subst h1; exact Nat.le_refl _
theorem vI_pre {d : Int} (j : Nat) : ∀ {a b : Nat}, a ≤ b → j < (vI lv K a).length → (vI lv K b).getD j d = (vI lv K a).getD j d
  | a, 0, h, _ => by have : a = 0 := by omega
                     subst this; rfl
  | a, b + 1, h, hj => by
    rcases Nat.lt_or_eq_of_le h with h1 | h1
    · have h2 := vI_mono (lv := lv) (K := K) (a := a) (b := b) (by omega)
      rw [← vI_pre j (a := a) (b := b) (by omega) hj]
      show (vI lv K b ++ List.replicate (K b) (-1) ++ (if b < lv.length then [lv.getD b 0] else [])).getD j d = _
      rw [List.append_assoc, List.getD_eq_getElem?_getD, List.getElem?_append_left (by omega), ← List.getD_eq_getElem?_getD]
    · subst h1; rfl
theorem vI_at {a n : Nat} (h : a < n) (hn : n ≤ lv.length) : (vI lv K n).getD (poI l K X a) 0 = lv.getD a 0 := by
  have e := vI_len (l := l) (K := K) (X := X) (i := a) (lv := lv) (by omega)
  have e2 := vI_len (l := l) (K := K) (X := X) (i := a + 1) (lv := lv) (by omega)
  rw [vI_pre (poI l K X a) (a := a + 1) (b := n) h (by rw [e2, cI_succ]; omega)]
  unfold vI
  rw [if_pos (by omega), List.getD_eq_getElem?_getD, List.getElem?_append_right (by simp [poI, e])]
  simp [poI, e]
theorem tI_len : ∀ i, (tI l K X i).length = i
  | 0 => rfl
  | i + 1 => by simp [tI, tI_len i]
theorem tI_at : ∀ {n a : Nat}, a < n → (tI l K X n).getD a 0 = ((poI l K X a : Nat) : Int)
  | n + 1, a, h => by
    unfold tI
    rcases Nat.lt_or_eq_of_le (show a ≤ n by omega) with h1 | h1
    · rw [List.getD_eq_getElem?_getD, List.getElem?_append_left (by rw [tI_len]; exact h1), ← List.getD_eq_getElem?_getD]
      exact tI_at h1
    · subst h1
      rw [List.getD_eq_getElem?_getD, List.getElem?_append_right (by rw [tI_len]; exact Nat.le_refl _), tI_len]
      simp
/-- The list that the statement makes is one into which removed characters were put. -/
theorem emb_I (hX : ∀ i, remC (X i) = true) (hl : lv.length = l.length) : Emb l lv (cI l K X l.length) (vI lv K l.length) (poI l K X) :=
  ⟨fun a b h _ => poI_mono h, fun a h => poI_lt h, fun a h => cI_at h, fun a h => vI_at h (by omega), fun b h => cI_rem hX h⟩

/-- What the statement asks of the two answers. -/
theorem seqs_I (hX : ∀ i, remC (X i) = true) (base : Int) :
    seqsL (cI l K X l.length) (cI l K X l.length) (vI lv K l.length ++ lv.drop l.length) base = ((seqsL l l lv base).1.map (Smv (poI l K X)), (seqsL l l lv base).2) := by
  by_cases hl : lv.length = l.length
  · have e : lv.drop l.length = [] := by rw [← hl, List.drop_length]
    rw [e, List.append_nil]
    exact (emb_I hX hl).seqs base hl (vI_len (by omega))
  · have h1 := vI_more (l := l) (lv := lv) (K := K) (X := X) (i := l.length)
    have e1 : seqsL l l lv base = ([], 2) := by unfold seqsL; rw [if_pos (.inr (.inl hl))]
    have e2 : seqsL (cI l K X l.length) (cI l K X l.length) (vI lv K l.length ++ lv.drop l.length) base = ([], 2) := by
      have h2 : (vI lv K l.length ++ lv.drop l.length).length ≠ (cI l K X l.length).length := by
        rw [List.length_append, List.length_drop]
        omega
      unfold seqsL
      rw [if_pos (.inr (.inl h2))]
    rw [e1, e2]
    rfl
end

/-- The places of sequences are places. -/
theorem out_places {cl nw lv : List Int} {base : Int} {rs : List Rn} (G : RunsGood cl.length cl rs) {nx : Nat → Int} (NG : NxGood rs.length nx) (ld : List Bool) :
    ∀ i, i ≤ rs.length → ∀ s ∈ outT (txtOf cl nw lv base) rs nx ld i, ∀ x ∈ s.pl, ∃ a : Nat, x = a ∧ a < cl.length
  | 0, _, s, hs, _, _ => by cases hs
  | i + 1, hi, s, hs, x, hx => by
    unfold outT at hs
    split at hs
    · exact out_places G NG ld i (by omega) s hs x hx
    · rcases List.mem_append.1 hs with hs | hs
      · exact out_places G NG ld i (by omega) s hs x hx
      · rw [List.mem_singleton] at hs
        subst hs
        obtain ⟨r, hr, a, e, _, h2, _⟩ := seqP_mem.1 (show x ∈ seqP cl _ from hx)
        obtain ⟨k, hk, rfl⟩ := List.mem_map.1 hr
        have := (chT_bound G rfl NG (rs.length - i) i (by omega)).2 k hk
        have := G.hi k this
        exact ⟨a, e, by omega⟩
theorem seqs_places {cl nw lv : List Int} {base : Int} : ∀ s ∈ (seqsL cl nw lv base).1, ∀ x ∈ s.pl, ∃ a : Nat, x = a ∧ a < cl.length := by
  intro s hs
  unfold seqsL at hs
  split at hs
  · cases hs
  · split at hs
    · cases hs
    · exact out_places (runs_good lv cl) (nx_good lv cl) _ _ (Nat.le_refl _) s hs

/-- A place of a sequence is stored. -/
def setPl (e : Sq × Value × Value) (k : Nat) (x : Int) : Sq × Value × Value := ({ e.1 with pl := e.1.pl.set k x }, e.2)
theorem setPl_own (e : Sq × Value × Value) (k : Nat) (x : Int) (b : Nat) : sqOwn (setPl e k x) b ↔ sqOwn e b := Iff.rfl
theorem flat_set : ∀ (L : List (Sq × Value × Value)) (i k : Nat) (x : Int) (e : Sq × Value × Value), L[i]? = some e → (L.set i (setPl e k x)).flatMap sqCells = L.flatMap sqCells
  | [], i, k, x, e, h => by simp at h
  | a :: L, 0, k, x, e, h => by
    have h : a = e := by simpa using h
    subst h
    rfl
  | a :: L, i + 1, k, x, e, h => by
    rw [List.set_cons_succ, List.flatMap_cons, List.flatMap_cons, flat_set L i k x e (by simpa using h)]
theorem pair_set {r : (Sq × Value × Value) → (Sq × Value × Value) → Prop} (h1 : ∀ a e k x, r a e → r a (setPl e k x)) (h2 : ∀ a e k x, r e a → r (setPl e k x) a) : ∀ {L : List (Sq × Value × Value)} {i k : Nat} {x : Int} {e : Sq × Value × Value}, L[i]? = some e → L.Pairwise r → (L.set i (setPl e k x)).Pairwise r
  | [], i, k, x, e, h, _ => by simp at h
  | a :: L, 0, k, x, e, h, hp => by
    have h : a = e := by simpa using h
    subst h
    rw [List.pairwise_cons] at hp
    rw [List.set_cons_zero, List.pairwise_cons]
    exact ⟨fun b hb => h2 _ _ _ _ (hp.1 b hb), hp.2⟩
  | a :: L, i + 1, k, x, e, h, hp => by
    rw [List.pairwise_cons] at hp
    have h : L[i]? = some e := by simpa using h
    rw [List.set_cons_succ, List.pairwise_cons]
    refine ⟨fun b hb => ?_, pair_set h1 h2 h hp.2⟩
    rcases List.mem_or_eq_of_mem_set hb with hb | hb
    · exact hp.1 b hb
    · subst hb; exact h1 _ _ _ _ (hp.1 e (List.mem_of_getElem? h))
theorem SqsAt.setPl {W : World} {B : Nat} {ov : Value} {L : List (Sq × Value × Value)} (h : SqsAt W B ov L) {i k : Nat} {e : Sq × Value × Value} (he : L[i]? = some e) {g n c : Nat} (hv : e.2.1 = .slice (some ⟨g, 0, none⟩) n c) (x : Int) :
    SqsAt (W.setCell ⟨g, k, none⟩ (.int .i64 x)) B ov (L.set i (setPl e k x)) := by
  have F := (Frm.refl (fun j => j = g) W).set (b := g) (j := k) rfl (.int .i64 x)
  have hm := List.mem_of_getElem? he
  obtain ⟨i1, i2, i3⟩ := h.each e hm
  have hg : sqOwn e g := .inl (by rw [hv]; rfl)
  have far : ∀ (j : Nat) (hj : j < L.length), j ≠ i → ∀ b, sqOwn L[j] b → b ≠ g := by
    intro j hj hji b hb e2
    subst e2
    obtain ⟨hi1, hi2⟩ := List.getElem?_eq_some_iff.1 he
    rcases Nat.lt_or_gt_of_ne hji with h1 | h1
    · have := List.pairwise_iff_getElem.1 h.apart j i hj hi1 h1
      rw [hi2] at this
      exact this b hb hg
    · have := List.pairwise_iff_getElem.1 h.apart i j hi1 hj h1
      rw [hi2] at this
      exact this b hg hb
  refine ⟨?_, fun e' he' => ?_, pair_set (fun a e k x h => h) (fun a e k x h => h) he h.apart, fun e' he' b hb => ?_⟩
  · rw [List.length_set, flat_set _ _ _ _ _ he]
    exact own_frm h.row F (fun j h1 h2 => by subst h2; exact h.out e hm _ hg h1)
  · obtain ⟨j, hj, hje⟩ := List.mem_iff_getElem.1 he'
    rw [List.getElem_set] at hje
    rw [List.length_set] at hj
    split at hje
    · subst hje
      refine ⟨?_, i2.frm F (fun j h3 h4 => by subst h4; exact i3 j (by rw [hv]; rfl) h3), i3⟩
      have hI : Ints W B 3 .i64 (.slice (some ⟨g, 0, none⟩) n c) e.1.pl := hv ▸ i1
      have := hI.set k x
      show Ints _ B 3 .i64 e.2.1 (e.1.pl.set k x)
      rw [hv]; exact this
    · rename_i hij
      subst hje
      obtain ⟨k1, k2, k3⟩ := h.each _ (List.getElem_mem hj)
      have f := far j hj (fun e => hij e.symm)
      exact ⟨k1.frm F (fun b h3 h4 => f b (.inl h3) h4), k2.frm F (fun b h3 h4 => f b (.inr h3) h4), k3⟩
  · rcases List.mem_or_eq_of_mem_set he' with h1 | h1
    · exact h.out e' h1 b hb
    · subst h1; exact h.out e hm b hb
end Go.Proofs.Ythifeccmbojcdaa
