/- The level that an FSI finds: by the list from the right, and by looking. -/
import Derived.Test.YtpdackbcnbhppaaS3
namespace Go.Proofs.Ytpdackbcnbhppaa

theorem get_getD {l : List Int} {i : Nat} (h : i < l.length) : l[i]? = some (l.getD i 0) := by simp [h]
theorem getD_of {l : List Int} {i : Nat} {a : Int} (h : l[i]? = some a) : l.getD i 0 = a := by simp [List.getD, h]

def autoOne (n i : Nat) (c mi : Int) (suf : List Int) : Int :=
  if c = 2 ∨ c = 3 then 1
  else if c = 1 ∨ c = 11 ∨ (c = 23 ∧ 0 ≤ mi) then 0
  else if c ≠ 23 ∧ 0 ≤ mi ∧ mi < n then suf.getD (mi.toNat - i) 0
  else if mi < 0 then suf.getD 0 0
  else 0
def autoSuf (l m : List Int) : Nat → List Int
  | 0 => [0]
  | k + 1 => autoOne l.length (l.length - (k + 1)) (l.getD (l.length - (k + 1)) 0) (m.getD (l.length - (k + 1)) 0) (autoSuf l m k) :: autoSuf l m k
/-- What stands at place i of the list. -/
def autoAt (l m : List Int) (i : Nat) : Int := (autoSuf l m (l.length - i)).getD 0 0
def autosL (l m : List Int) : List Int := autoSuf l m l.length

theorem autoSuf_length (l m : List Int) (k : Nat) : (autoSuf l m k).length = k + 1 := by
  induction k with
  | zero => rfl
  | succ k ih => simp [autoSuf, ih]
theorem autoSuf_getD (l m : List Int) : ∀ (k j : Nat), j ≤ k → (autoSuf l m k).getD j 0 = (autoSuf l m (k - j)).getD 0 0
  | k, 0, _ => by simp
  | k + 1, j + 1, h => by
    rw [Nat.add_sub_add_right, ← autoSuf_getD l m k j (by omega)]
    simp [autoSuf]
theorem autoAt_end (l m : List Int) : autoAt l m l.length = 0 := by simp [autoAt, autoSuf]
theorem autosL_getD (l m : List Int) (i : Nat) (h : i ≤ l.length) : (autosL l m).getD i 0 = autoAt l m i := autoSuf_getD l m _ i h
/-- The list's own law, place by place. -/
theorem autoAt_step (l m : List Int) {i : Nat} (h : i < l.length) : autoAt l m i =
    (if l.getD i 0 = 2 ∨ l.getD i 0 = 3 then 1
     else if l.getD i 0 = 1 ∨ l.getD i 0 = 11 ∨ (l.getD i 0 = 23 ∧ 0 ≤ m.getD i 0) then 0
     else if l.getD i 0 ≠ 23 ∧ 0 ≤ m.getD i 0 ∧ m.getD i 0 < l.length then (if i ≤ (m.getD i 0).toNat then autoAt l m ((m.getD i 0).toNat + 1) else (autoSuf l m (l.length - i - 1)).getD 0 0)
     else if m.getD i 0 < 0 then autoAt l m (i + 1)
     else 0) := by
  obtain ⟨k, hk⟩ : ∃ k, l.length - i = k + 1 := ⟨l.length - i - 1, by omega⟩
  have hi : l.length - (k + 1) = i := by omega
  unfold autoAt
  rw [hk, autoSuf, hi]
  simp only [List.getD_cons_zero]
  unfold autoOne
  split
  · rfl
  · split
    · rfl
    · split
      · rename_i h3
        obtain ⟨h3, h4, h5⟩ := h3
        split
        · rename_i h6
          rw [autoSuf_getD l m k _ (by omega)]
          congr 2
          omega
        · rename_i h6
          have : (m.getD i 0).toNat - i = 0 := by omega
          rw [this]
          congr 1
      · split
        · congr 2; omega
        · rfl

def scan (l m : List Int) (e : Int) : Nat → Nat → Int
  | 0, _ => 0
  | f + 1, i =>
    if i < l.length ∧ (i : Int) < e ∧ l.getD i 0 ≠ 11 then
      if l.getD i 0 = 1 then 0
      else if l.getD i 0 = 2 ∨ l.getD i 0 = 3 then 1
      else if begins (l.getD i 0) = true then scan l m e f ((m.getD i 0).toNat + 1)
      else scan l m e f (i + 1)
    else 0
def autoRef (l m : List Int) (at_ : Nat) : Int := scan l m (m.getD at_ 0) l.length (at_ + 1)

theorem begins_cases {c : Int} (h : begins c = true) : c = 20 ∨ c = 21 ∨ c = 22 := by
  simp [begins] at h
  omega

theorem matchL_inv (l : List Int) : MInv l.length l (matchL l) (mRun l.length l).2 := mInv_run l.length l (Nat.le_refl _)

structure Track (l m : List Int) (at_ i : Nat) : Prop where
  lt : at_ < i
  le : (i : Int) ≤ m.getD at_ 0
  back : ∀ j y : Nat, i ≤ j → (j : Int) < m.getD at_ 0 → j < l.length → m[j]? = some (y : Int) → y < j → i ≤ y

theorem scan_end (l m : List Int) (e : Int) (f i : Nat) (h : ¬ (i < l.length ∧ (i : Int) < e)) : scan l m e f i = 0 := by
  cases f with
  | zero => rfl
  | succ f => rw [scan, if_neg (fun hh => h ⟨hh.1, hh.2.1⟩)]

theorem scan_auto {l : List Int} {at_ : Nat} (hat : at_ < l.length) (hb : begins (l.getD at_ 0) = true) :
    ∀ (f i : Nat), Track l (matchL l) at_ i → l.length - i ≤ f → scan l (matchL l) ((matchL l).getD at_ 0) f i = autoAt l (matchL l) i := by
  have hm := matchL_inv l
  generalize hp : (mRun l.length l).2 = pile at hm
  clear hp
  generalize hmm : matchL l = m at hm ⊢
  clear hmm
  have hml := hm.len
  have hend : ∀ i : Nat, (i : Int) = m.getD at_ 0 → autoAt l m i = 0 := by
    intro i hi
    rcases hm.kind at_ _ (get_getD hat) with ⟨_, h1⟩ | ⟨h1, _⟩ | ⟨y, h1, h2, h3, h4⟩
    · rw [h1] at hb; cases hb
    · rw [getD_of h1] at hi
      have : i = l.length := by omega
      subst this
      exact autoAt_end l m
    · rw [getD_of h1] at hi
      have : i = y := by omega
      subst this
      rcases h4 with ⟨_, _, h5⟩ | ⟨_, h5, _⟩
      · rw [autoAt_step l m h3, getD_of h5, getD_of h2]
        rw [if_neg (by omega), if_pos (by omega)]
      · rw [h5] at hb; cases hb
  have hle : m.getD at_ 0 ≤ l.length := by
    rcases hm.kind at_ _ (get_getD hat) with ⟨h1, _⟩ | ⟨h1, _⟩ | ⟨y, h1, h2, h3, h4⟩ <;> rw [getD_of h1] <;> omega
  intro f
  induction f with
  | zero =>
    intro i ht hf
    have : i = l.length := by have := ht.le; omega
    subst this
    rw [autoAt_end]; rfl
  | succ f ih =>
    intro i ht hf
    by_cases hi : (i : Int) < m.getD at_ 0
    · have hil : i < l.length := by omega
      rw [scan]
      by_cases h11 : l.getD i 0 = 11
      · rw [if_neg (fun hh => hh.2.2 h11), autoAt_step l m hil, h11]
        rw [if_neg (by omega), if_pos (by omega)]
      · rw [if_pos ⟨hil, hi, h11⟩, autoAt_step l m hil]
        by_cases h1 : l.getD i 0 = 1
        · rw [if_pos h1, if_neg (by omega), if_pos (by omega)]
        · rw [if_neg h1]
          by_cases h2 : l.getD i 0 = 2 ∨ l.getD i 0 = 3
          · rw [if_pos h2, if_pos h2]
          · rw [if_neg h2, if_neg h2]
            by_cases hbi : begins (l.getD i 0) = true
            · rw [if_pos hbi]
              have hc := begins_cases hbi
              rw [if_neg (by omega)]
              rcases hm.kind i _ (get_getD hil) with ⟨_, k1⟩ | ⟨k1, _⟩ | ⟨y, k1, k2, k3, k4⟩
              · rw [k1] at hbi; cases hbi
              · rw [getD_of k1, if_neg (by omega), if_neg (by omega)]
                exact scan_end l m _ f _ (by omega)
              · rcases k4 with ⟨k5, _, k6⟩ | ⟨_, k5, _⟩
                · rw [getD_of k1, if_pos (by omega), if_pos (by omega), Int.toNat_natCast]
                  refine ih (y + 1) ⟨by have := ht.lt; omega, ?_, ?_⟩ (by omega)
                  · -- the pair's end lies ahead of the end
                    rcases hm.kind at_ _ (get_getD hat) with ⟨_, g1⟩ | ⟨g1, _⟩ | ⟨z, g1, g2, g3, g4⟩
                    · rw [g1] at hb; cases hb
                    · rw [getD_of g1]; omega
                    · rcases g4 with ⟨g5, _, _⟩ | ⟨_, g5, _⟩
                      · rw [getD_of g1] at hi ⊢
                        rcases hm.within at_ z g5 g1 g3 i ht.lt (by omega) with g6 | ⟨y', g6, g7, g8⟩
                        · rw [k1] at g6; injection g6 with g6; omega
                        · rw [k1] at g6; injection g6 with g6; omega
                      · rw [g5] at hb; cases hb
                  · intro j z hj1 hj2 hj3 hj4 hj5
                    have h9 := ht.back j z (by omega) hj2 hj3 hj4 hj5
                    rcases hm.kind j _ (get_getD hj3) with ⟨g1, _⟩ | ⟨g1, _⟩ | ⟨z', g1, g2, g3, g4⟩
                    · rw [hj4] at g1; injection g1 with g1; omega
                    · rw [hj4] at g1; injection g1 with g1; omega
                    · rw [hj4] at g1
                      injection g1 with g1
                      have hz : z = z' := by omega
                      subst hz
                      rcases Nat.lt_trichotomy z i with h10 | h10 | h10
                      · omega
                      · subst h10; rw [k1] at g2; injection g2 with g2; omega
                      · rcases Nat.lt_trichotomy z y with h12 | h12 | h12
                        · rcases hm.within i y k5 k1 k3 z h10 h12 with g6 | ⟨y', g6, g7, g8⟩
                          · rw [g2] at g6; injection g6 with g6; omega
                          · rw [g2] at g6; injection g6 with g6; omega
                        · subst h12; rw [k2] at g2; injection g2 with g2; omega
                        · exact h12
                · rw [k5] at hbi; simp [begins] at hbi
            · have hbf : begins (l.getD i 0) = false := by simpa using hbi
              rw [if_neg hbi]
              rcases hm.kind i _ (get_getD hil) with ⟨k1, _⟩ | ⟨_, k1⟩ | ⟨y, k1, k2, k3, k4⟩
              · rw [getD_of k1, if_neg (by omega), if_neg (by omega), if_pos (by omega)]
                refine ih (i + 1) ⟨by have := ht.lt; omega, by omega, ?_⟩ (by omega)
                intro j z hj1 hj2 hj3 hj4 hj5
                have h9 := ht.back j z (by omega) hj2 hj3 hj4 hj5
                rcases Nat.lt_or_ge i z with h10 | h10
                · omega
                · have : z = i := by omega
                  subst this
                  rcases hm.kind j _ (get_getD hj3) with ⟨g1, _⟩ | ⟨g1, _⟩ | ⟨z', g1, g2, g3, g4⟩
                  · rw [hj4] at g1; injection g1 with g1; omega
                  · rw [hj4] at g1; injection g1 with g1; omega
                  · rw [hj4] at g1
                    injection g1 with g1
                    have hz : z = z' := by omega
                    subst hz
                    rw [k1] at g2; injection g2 with g2; omega
              · rw [k1] at hbf; cases hbf
              · exfalso
                rcases k4 with ⟨_, k5, _⟩ | ⟨k5, _⟩
                · rw [k5] at hbf; cases hbf
                · have := ht.back i y (Nat.le_refl _) hi hil k1 k5
                  omega
    · rw [scan_end l m _ _ _ (by omega)]
      exact (hend i (by have := ht.le; omega)).symm

/-- What the program's list says of an FSI is what looking finds. -/
theorem auto_eq {l : List Int} {at_ : Nat} (hat : at_ < l.length) (hb : begins (l.getD at_ 0) = true) : autoRef l (matchL l) at_ = autoAt l (matchL l) (at_ + 1) := by
  refine scan_auto hat hb _ _ ⟨by omega, ?_, ?_⟩ (by omega)
  · rcases (matchL_inv l).kind at_ _ (get_getD hat) with ⟨_, h1⟩ | ⟨h1, _⟩ | ⟨y, h1, h2, h3, h4⟩
    · rw [h1] at hb; cases hb
    · rw [getD_of h1]; omega
    · rcases h4 with ⟨h5, _⟩ | ⟨_, h5, _⟩
      · rw [getD_of h1]; omega
      · rw [h5] at hb; simp [begins] at hb
  · intro j y hj1 hj2 hj3 hj4 hj5
    have hm := matchL_inv l
    rcases hm.kind at_ _ (get_getD hat) with ⟨_, h1⟩ | ⟨h1, _⟩ | ⟨z, h1, h2, h3, h4⟩
    · rw [h1] at hb; cases hb
    · rcases hm.kind j _ (get_getD hj3) with ⟨g1, _⟩ | ⟨g1, _⟩ | ⟨z', g1, g2, g3, g4⟩
      · rw [hj4] at g1; injection g1 with g1; omega
      · rw [hj4] at g1; injection g1 with g1; omega
      · rw [hj4] at g1
        injection g1 with g1
        have hz : y = z' := by omega
        subst hz
        rcases Nat.lt_trichotomy y at_ with h5 | h5 | h5
        · rcases hm.within y j hj5 g2 hj3 at_ h5 (by omega) with h6 | ⟨y', h6, _, h8⟩
          · rw [h1] at h6; injection h6 with h6; omega
          · rw [h1] at h6; injection h6 with h6; omega
        · subst h5; rw [h1] at g2; injection g2 with g2; omega
        · omega
    · rcases h4 with ⟨h5, _, _⟩ | ⟨_, h5, _⟩
      · rw [getD_of h1] at hj2
        rcases hm.within at_ z h5 h1 h3 j (by omega) (by omega) with h6 | ⟨y', h6, h7, _⟩
        · rw [hj4] at h6; injection h6 with h6; omega
        · rw [hj4] at h6; injection h6 with h6; omega
      · rw [h5] at hb; simp [begins] at hb
end Go.Proofs.Ytpdackbcnbhppaa
