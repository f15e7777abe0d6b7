/- What changes when brackets are resolved: the plain law. -/
import Derived.Test.YtpdackbcnbhppaaY11
import Derived.Test.YtpdackbcnbhppaaR18
namespace Go.Proofs.Ytpdackbcnbhppaa
open Go.RowKit

/-- A mark by its first class. -/
def nsm (pl fs : List Int) (j : Nat) : Prop := fs.getD (pl.getD j 0).toNat 0 = 9
instance (pl fs : List Int) (j : Nat) : Decidable (nsm pl fs j) := by unfold nsm; infer_instance
/-- An end of a pair. -/
def endB (D : List (Int × Int)) (j : Nat) : Bool := D.any fun e => decide (e.1 = (j : Int)) || decide (e.2 = (j : Int))
/-- Back over marks to an end. -/
def bk (pl fs : List Int) (D : List (Int × Int)) : Nat → Nat
  | 0 => 0
  | k + 1 => if endB D (k + 1) = false ∧ nsm pl fs (k + 1) then bk pl fs D k else k + 1
theorem bk_le (pl fs : List Int) (D : List (Int × Int)) : ∀ k, bk pl fs D k ≤ k
  | 0 => Nat.le_refl _
  | k + 1 => by
    unfold bk
    split
    · have := bk_le pl fs D k; omega
    · exact Nat.le_refl _
theorem bk_over (pl fs : List Int) (D : List (Int × Int)) : ∀ k j, bk pl fs D k < j → j ≤ k → endB D j = false ∧ nsm pl fs j
  | 0, j, h1, h2 => by omega
  | k + 1, j, h1, h2 => by
    unfold bk at h1
    split at h1
    · rename_i h
      rcases Nat.lt_or_ge j (k + 1) with h3 | h3
      · exact bk_over pl fs D k j h1 (by omega)
      · have e : j = k + 1 := by omega
        rw [e]; exact h
    · omega
theorem bk_stop (pl fs : List Int) (D : List (Int × Int)) : ∀ k, bk pl fs D k = 0 ∨ ¬ (endB D (bk pl fs D k) = false ∧ nsm pl fs (bk pl fs D k))
  | 0 => .inl rfl
  | k + 1 => by
    by_cases h : endB D (k + 1) = false ∧ nsm pl fs (k + 1)
    · have e : bk pl fs D (k + 1) = bk pl fs D k := by rw [bk, if_pos h]
      rw [e]; exact bk_stop pl fs D k
    · have e : bk pl fs D (k + 1) = k + 1 := by rw [bk, if_neg h]
      rw [e]; exact .inr h

/-- What an end and its marks reach. -/
def Rch (pl fs : List Int) (p i : Nat) : Prop := p ≤ i ∧ ∀ j, p < j → j ≤ i → nsm pl fs j
theorem rch_bk {pl fs : List Int} {D : List (Int × Int)} {p i : Nat} (hp : endB D p = true) : Rch pl fs p i ↔ Rch pl fs p (bk pl fs D i) := by
  have h1 := bk_le pl fs D i
  have h2 := bk_over pl fs D i
  constructor
  · rintro ⟨a, b⟩
    refine ⟨?_, fun j hj hj2 => b j hj (by omega)⟩
    rcases Nat.lt_or_ge (bk pl fs D i) p with h | h
    · have := (h2 p h a).1; rw [hp] at this; cases this
    · exact h
  · rintro ⟨a, b⟩
    refine ⟨by omega, fun j hj hj2 => ?_⟩
    rcases Nat.lt_or_ge (bk pl fs D i) j with h | h
    · exact (h2 j h hj2).2
    · exact b j hj h
theorem rch_end {pl fs : List Int} {D : List (Int × Int)} {p i : Nat} (hp : endB D p = true) (h : Rch pl fs p i) : endB D (bk pl fs D i) = true := by
  obtain ⟨a, b⟩ := (rch_bk hp).1 h
  rcases bk_stop pl fs D i with h0 | h0
  · rw [h0] at a ⊢
    have e : p = 0 := by omega
    rw [e] at hp; exact hp
  · rcases Nat.lt_or_ge p (bk pl fs D i) with h1 | h1
    · have := b _ h1 (Nat.le_refl _)
      rcases h3 : endB D (bk pl fs D i) with _ | _
      · exact absurd ⟨h3, this⟩ h0
      · rfl
    · have e : p = bk pl fs D i := by omega
      rw [← e]; exact hp

open Classical in
theorem bcT_get (pl fs : List Int) (c : Int) : ∀ (d i : Nat) (C : List Int) (x : Nat), i + d ≤ C.length →
    (bcT pl fs c d i C).getD x 0 = if i ≤ x ∧ x < i + d ∧ ∀ j, i ≤ j → j ≤ x → nsm pl fs j then c else C.getD x 0
  | 0, i, C, x, _ => by
    rw [if_neg (by omega)]; rfl
  | d + 1, i, C, x, h => by
    unfold bcT
    by_cases hn : nsm pl fs i
    · rw [if_pos (show fs.getD (pl.getD i 0).toNat 0 = 9 from hn), bcT_get pl fs c d (i + 1) (C.set i c) x (by rw [List.length_set]; omega)]
      by_cases hx : i = x
      · subst hx
        rw [if_neg (by omega), if_pos ⟨Nat.le_refl _, by omega, fun j h1 h2 => by
          have e : j = i := by omega
          rw [e]; exact hn⟩, List.getD_eq_getElem?_getD, List.getElem?_set_self (by omega), Option.getD_some]
      · have e : (C.set i c).getD x 0 = C.getD x 0 := by rw [List.getD_eq_getElem?_getD, List.getElem?_set_ne hx, ← List.getD_eq_getElem?_getD]
        rw [e]
        by_cases h1 : i + 1 ≤ x ∧ x < i + 1 + d ∧ ∀ j, i + 1 ≤ j → j ≤ x → nsm pl fs j
        · rw [if_pos h1, if_pos ⟨by omega, by omega, fun j h2 h3 => (by
            by_cases e2 : j = i
            · rw [e2]; exact hn
            · exact h1.2.2 j (by omega) h3)⟩]
        · rw [if_neg h1, if_neg (fun h2 => h1 ⟨by omega, by omega, fun j h3 h4 => h2.2.2 j (by omega) h4⟩)]
    · have hn' : ¬ fs.getD (pl.getD i 0).toNat 0 = 9 := hn
      rw [if_neg hn', if_neg (fun h2 => hn (h2.2.2 i (Nat.le_refl _) h2.1))]
open Classical in
theorem becL_get (pl fs : List Int) (n p : Nat) (c : Int) (C : List Int) (x : Nat) (hn : C.length = n) (hp : p < n) (hx : x < n) :
    (becL pl fs n p c C).getD x 0 = if Rch pl fs p x then c else C.getD x 0 := by
  unfold becL
  rw [bcT_get _ _ _ _ _ _ _ (by rw [List.length_set]; omega)]
  by_cases h : p = x
  · subst h
    rw [if_neg (by omega), if_pos ⟨Nat.le_refl _, fun j h1 h2 => by omega⟩, List.getD_eq_getElem?_getD, List.getElem?_set_self (by omega), Option.getD_some]
  · have e : (C.set p c).getD x 0 = C.getD x 0 := by rw [List.getD_eq_getElem?_getD, List.getElem?_set_ne h, ← List.getD_eq_getElem?_getD]
    rw [e]
    by_cases h1 : Rch pl fs p x
    · rw [if_pos h1, if_pos ⟨by have := h1.1; omega, by omega, fun j h2 h3 => h1.2 j (by omega) h3⟩]
    · rw [if_neg h1, if_neg (fun h2 => h1 ⟨by omega, fun j h3 h4 => h2.2.2 j (by omega) h4⟩)]

/-- Something strong. -/
def isStr (c : Int) : Bool := decide (c = 1) || decide (c = 2) || decide (c = 3) || decide (c = 4) || decide (c = 7)
def strT (cs : List Int) : Nat → Bool
  | 0 => false
  | k + 1 => strT cs k || isStr (cs.getD k 0)
theorem sdL_str {c : Int} (h : sdL c ≠ 0) : isStr c = true := by
  unfold sdL at h
  unfold isStr
  split at h
  · simp; omega
  · split at h
    · simp; omega
    · exact absurd rfl h
theorem sdL_12 {c : Int} (h : sdL c ≠ 0) : sdL c = 1 ∨ sdL c = 2 := by
  unfold sdL at *
  split
  · exact .inr rfl
  · split
    · exact .inl rfl
    · rename_i h1 h2; rw [if_neg h1, if_neg h2] at h; exact absurd rfl h
theorem strT_of (cs : List Int) : ∀ (k j : Nat), j < k → isStr (cs.getD j 0) = true → strT cs k = true
  | 0, j, h, _ => by omega
  | k + 1, j, h, h2 => by
    unfold strT
    by_cases e : j = k
    · rw [e] at h2; rw [h2]; simp
    · rw [strT_of cs k j (by omega) h2]; rfl
theorem wi_str (cs : List Int) (way : Int) (hw : way ≠ 0) (o : Nat) : ∀ k, (wiS cs way o k || wiA cs o k) = true → ∃ j, j < o + k ∧ isStr (cs.getD j 0) = true
  | 0, h => by simp [wiS, wiA] at h
  | k + 1, h => by
    by_cases h1 : sdL (cs.getD (o + k) 0) ≠ 0
    · exact ⟨o + k, by omega, sdL_str h1⟩
    · have h0 : sdL (cs.getD (o + k) 0) = 0 := by simpa using h1
      unfold wiS wiA at h
      rw [h0] at h
      have e1 : ((0 : Int) == way) = false := by simpa using fun e => hw e.symm
      have e2 : ((0 : Int) != 0) = false := rfl
      rw [e1, e2, Bool.or_false, Bool.or_false] at h
      obtain ⟨j, hj, h2⟩ := wi_str cs way hw o k h
      exact ⟨j, by omega, h2⟩
theorem ahT_12 (cs : List Int) (so : Int) (hs : so = 1 ∨ so = 2) : ∀ k, ahT cs so k = 1 ∨ ahT cs so k = 2
  | 0 => hs
  | k + 1 => by
    unfold ahT
    split
    · rename_i h; exact sdL_12 h
    · exact ahT_12 cs so hs k

structure Ltl (s : Sq) (fs : List Int) (D : List (Int × Int)) (C : List Int) : Prop where
  len : C.length = s.pl.length
  each : ∀ i, i < s.pl.length → C.getD i 0 = s.cs.getD i 0 ∨ ((C.getD i 0 = 1 ∨ C.getD i 0 = 2) ∧ endB D (bk s.pl fs D i) = true ∧ C.getD (bk s.pl fs D i) 0 = C.getD i 0)
  str : strT s.cs s.pl.length = true ∨ C = s.cs
theorem Ltl.become {s : Sq} {fs : List Int} {D : List (Int × Int)} {C : List Int} (h : Ltl s fs D C) {p : Nat} {c : Int} (hp : p < s.pl.length) (he : endB D p = true) (hc : c = 1 ∨ c = 2) (hs : strT s.cs s.pl.length = true) : Ltl s fs D (becL s.pl fs s.pl.length p c C) := by
  classical
  refine ⟨by rw [becL_length, h.len], fun i hi => ?_, .inl hs⟩
  have hb := bk_le s.pl fs D i
  rw [becL_get _ _ _ _ _ _ _ h.len hp hi, becL_get _ _ _ _ _ _ _ h.len hp (by omega)]
  by_cases hr : Rch s.pl fs p i
  · rw [if_pos hr, if_pos ((rch_bk he).1 hr)]
    exact .inr ⟨hc, rch_end he hr, rfl⟩
  · rw [if_neg hr, if_neg (fun h2 => hr ((rch_bk he).2 h2))]
    exact h.each i hi
theorem wayL_12 {lv : Int} (h0 : 0 ≤ lv) (h1 : lv ≤ 126) : wayL lv = 1 ∨ wayL lv = 2 := by
  unfold wayL
  repeat' split
  all_goals first | exact .inl rfl | exact .inr rfl | omega
theorem resT_ltl {s : Sq} {fs : List Int} {D : List (Int × Int)} (hl : s.pl.length = s.cs.length) (hD : ∀ e ∈ D, 0 ≤ e.1 ∧ e.1 < e.2 ∧ e.2 < (s.pl.length : Int)) (h0 : 0 ≤ s.lv) (h1 : s.lv ≤ 126) (hso : s.so = 1 ∨ s.so = 2) : ∀ k, k ≤ D.length → Ltl s fs D (resT s fs D k)
  | 0, _ => ⟨hl.symm, fun _ _ => .inl rfl, .inr rfl⟩
  | k + 1, hk => by
    have ih := resT_ltl (fs := fs) hl hD h0 h1 hso k (by omega)
    have hw := wayL_12 h0 h1
    unfold resT
    have hm : D.getD k (0, 0) ∈ D := getD_mem (by omega)
    obtain ⟨e0, e1, e2⟩ := hD _ hm
    generalize hx : D.getD k (0, 0) = x at *
    have en1 : endB D x.1.toNat = true := List.any_eq_true.2 ⟨x, hm, by simp; omega⟩
    have en2 : endB D x.2.toNat = true := List.any_eq_true.2 ⟨x, hm, by simp; omega⟩
    unfold seL
    split
    · rename_i hany
      have hstr : strT s.cs s.pl.length = true := by
        rcases ih.str with h | h
        · exact h
        · rw [h] at hany
          obtain ⟨j, hj, h2⟩ := wi_str s.cs (wayL s.lv) (by omega) _ _ hany
          exact strT_of s.cs _ j (by omega) h2
      have hc : seC (resT s fs D k) (wayL s.lv) s.so x.1.toNat x.2.toNat = 1 ∨ seC (resT s fs D k) (wayL s.lv) s.so x.1.toNat x.2.toNat = 2 := by
        unfold seC
        split
        · exact hw
        · rename_i h2
          split
          · exact ahT_12 _ _ hso _
          · rename_i h3
            rw [Bool.or_eq_true] at hany
            rcases hany with h | h
            · exact absurd h h2
            · exact absurd h h3
      exact (ih.become (by omega) en1 hc hstr).become (by omega) en2 hc hstr
    · exact ih
end Go.Proofs.Ytpdackbcnbhppaa
