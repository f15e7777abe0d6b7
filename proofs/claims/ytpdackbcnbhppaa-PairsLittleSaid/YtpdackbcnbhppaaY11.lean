/- Pairs do not cross; each place is in one at most; both ends are brackets of one key: the plain law. -/
import Derived.Test.YtpdackbcnbhppaaZ6
namespace Go.Proofs.Ytpdackbcnbhppaa
open Go.RowKit

/-- The rune at a place of a sequence. -/
def rnA (rs : List Int) (s : Sq) (a : Nat) : Int := rs.getD (s.pl.getD a 0).toNat 0
/-- A bracket of this side and key stands there. -/
def BrA (ch : List Chr) (rs : List Int) (s : Sq) (a : Int) (sd ky : Int) : Prop := s.cs.getD a.toNat 0 = 14 ∧ keyL ch (rnA rs s a.toNat) = (ky, sd)
/-- Two pairs have no end in common. -/
def Dis (x y : Int × Int) : Prop := x.1 ≠ y.1 ∧ x.1 ≠ y.2 ∧ x.2 ≠ y.1 ∧ x.2 ≠ y.2
structure Crs (ch : List Chr) (rs : List Int) (s : Sq) (k : Nat) (p : PS) : Prop where
  lo : ∀ e ∈ p.l, 0 ≤ e.1 ∧ e.1 < (k : Int) ∧ BrA ch rs s e.1 1 e.2
  linc : p.l.Pairwise fun x y => x.1 < y.1
  fo : ∀ e ∈ p.f, 0 ≤ e.1 ∧ e.1 < e.2 ∧ e.2 < (k : Int) ∧ ∃ ky, BrA ch rs s e.1 1 ky ∧ BrA ch rs s e.2 2 ky
  fdis : p.f.Pairwise Dis
  fcr : ∀ x ∈ p.f, ∀ y ∈ p.f, ¬ (x.1 < y.1 ∧ y.1 < x.2 ∧ x.2 < y.2)
  lf : ∀ e ∈ p.l, ∀ x ∈ p.f, e.1 ≠ x.1 ∧ e.1 ≠ x.2 ∧ ¬ (x.1 < e.1 ∧ e.1 < x.2)

section
variable {ch : List Chr} {rs : List Int} {s : Sq} {k : Nat} {p : PS}
theorem Crs.up (h : Crs ch rs s k p) : Crs ch rs s (k + 1) p :=
  ⟨fun e he => by have := h.lo e he; exact ⟨this.1, by omega, this.2.2⟩, h.linc, fun e he => by have := h.fo e he; exact ⟨this.1, this.2.1, by omega, this.2.2.2⟩, h.fdis, h.fcr, h.lf⟩
theorem scanK_key {l : List (Int × Int)} {key : Int} : ∀ {n j : Nat}, scanK l key n = some j → (l.getD j (0, 0)).2 = key
  | 0, j, h => by cases h
  | n + 1, j, h => by
    unfold scanK at h
    split at h
    · rename_i h2; cases h; exact h2
    · exact scanK_key h
theorem Crs.open_ (h : Crs ch rs s k p) {ky : Int} (hb : BrA ch rs s k 1 ky) (hov : p.ov = false) : Crs ch rs s (k + 1) (stpM p ⟨k, 1, ky⟩) := by
  unfold stpM
  rw [if_neg (by rw [hov]; decide), if_pos rfl, hov]
  unfold opL
  rw [if_neg (by decide)]
  split
  · exact ⟨(fun e he => by cases he), List.Pairwise.nil, fun e he => by have := h.fo e he; exact ⟨this.1, this.2.1, by omega, this.2.2.2⟩, h.fdis, h.fcr, (fun e he => by cases he)⟩
  · refine ⟨fun e he => ?_, ?_, fun e he => by have := h.fo e he; exact ⟨this.1, this.2.1, by omega, this.2.2.2⟩, h.fdis, h.fcr, fun e he x hx => ?_⟩
    · rcases List.mem_append.1 he with he | he
      · have := h.lo e he; exact ⟨this.1, by omega, this.2.2⟩
      · simp at he; subst he; exact ⟨by simp, by simp only; omega, hb⟩
    · refine List.pairwise_append.2 ⟨h.linc, List.pairwise_singleton _ _, fun x hx y hy => ?_⟩
      simp at hy; subst hy
      exact (h.lo x hx).2.1
    · rcases List.mem_append.1 he with he | he
      · exact h.lf e he x hx
      · simp at he; subst he
        have := h.fo x hx
        simp only
        exact ⟨by omega, by omega, by omega⟩
theorem Crs.close_ (h : Crs ch rs s k p) {ky : Int} (hb : BrA ch rs s k 2 ky) (hov : p.ov = false) : Crs ch rs s (k + 1) (stpM p ⟨k, 2, ky⟩) := by
  unfold stpM
  rw [if_neg (by rw [hov]; decide), if_neg (fun (h : (2 : Int) = 1) => by omega), hov]
  simp only
  unfold clL clF
  rcases hs : scanK p.l ky p.l.length with _ | j
  · exact ⟨fun e he => by have := h.lo e he; exact ⟨this.1, by omega, this.2.2⟩, h.linc, fun e he => by have := h.fo e he; exact ⟨this.1, this.2.1, by omega, this.2.2.2⟩, h.fdis, h.fcr, h.lf⟩
  · have hj := scanK_lt hs
    have hk := scanK_key hs
    obtain ⟨o, ho⟩ : ∃ o, p.l.getD j (0, 0) = o := ⟨_, rfl⟩
    have hg : p.l[j] = o := by rw [← ho, List.getD_eq_getElem?_getD, List.getElem?_eq_getElem hj]; rfl
    have hom : o ∈ p.l := by rw [← hg]; exact List.getElem_mem hj
    rw [ho] at hk
    simp only [ho]
    obtain ⟨o1, o2, o3⟩ := h.lo o hom
    have hlt : ∀ e ∈ p.l.take j, e.1 < o.1 := by
      intro e he
      obtain ⟨i, hi, rfl⟩ := List.mem_iff_getElem.1 he
      rw [List.length_take] at hi
      have := List.pairwise_iff_getElem.1 h.linc i j (by omega) hj (by omega)
      rw [hg] at this
      rw [List.getElem_take]
      exact this
    refine ⟨fun e he => by have := h.lo e (List.mem_of_mem_take he); exact ⟨this.1, by omega, this.2.2⟩, h.linc.sublist (List.take_sublist _ _), fun e he => ?_, ?_, fun x hx y hy => ?_, fun e he x hx => ?_⟩
    · rcases List.mem_append.1 he with he | he
      · have := h.fo e he; exact ⟨this.1, this.2.1, by omega, this.2.2.2⟩
      · simp at he; subst he
        exact ⟨o1, o2, by simp only; omega, ky, by rw [← hk]; exact o3, hb⟩
    · refine List.pairwise_append.2 ⟨h.fdis, List.pairwise_singleton _ _, fun x hx y hy => ?_⟩
      simp at hy; subst hy
      have h1 := h.lf o hom x hx
      have h2 := h.fo x hx
      exact ⟨fun e => h1.1 e.symm, by simp only; omega, fun e => h1.2.1 e.symm, by simp only; omega⟩
    · rcases List.mem_append.1 hx with hx | hx
      · rcases List.mem_append.1 hy with hy | hy
        · exact h.fcr x hx y hy
        · simp at hy; subst hy
          have h1 := h.lf o hom x hx
          simp only
          exact fun h2 => h1.2.2 ⟨h2.1, h2.2.1⟩
      · simp at hx; subst hx
        rcases List.mem_append.1 hy with hy | hy
        · have := h.fo y hy
          simp only; omega
        · simp at hy; subst hy
          simp only; omega
    · have he2 := List.mem_of_mem_take he
      rcases List.mem_append.1 hx with hx | hx
      · exact h.lf e he2 x hx
      · simp at hx; subst hx
        have := hlt e he
        have := h.lo e he2
        simp only; omega
end

theorem fdT_crs (ch : List Chr) (rs : List Int) (s : Sq) : ∀ k, Crs ch rs s k (fdT ch rs s k)
  | 0 => by
    have e : fdT ch rs s 0 = ⟨[], [], false⟩ := rfl
    rw [e]
    exact ⟨(fun e he => by cases he), List.Pairwise.nil, (fun e he => by cases he), List.Pairwise.nil, (fun x hx => by cases hx), (fun e he => by cases he)⟩
  | k + 1 => by
    have h := fdT_crs ch rs s k
    rw [fdT_succ, mk1_key]
    by_cases hov : (fdT ch rs s k).ov = true
    · rw [fold_over _ hov]; exact h.up
    · have hov2 : (fdT ch rs s k).ov = false := by simpa using hov
      split
      · rename_i hc
        have hr : keyL ch (rs.getD (s.pl.getD k 0).toNat 0) = keyL ch (rnA rs s ((k : Int)).toNat) := by unfold rnA; rw [Int.toNat_natCast]
        split
        · rename_i h1
          refine h.open_ ⟨by rw [Int.toNat_natCast]; exact hc, ?_⟩ hov2
          rw [← hr, ← h1]
        · split
          · rename_i h2
            refine h.close_ ⟨by rw [Int.toNat_natCast]; exact hc, ?_⟩ hov2
            rw [← hr, ← h2]
          · exact h.up
      · exact h.up

theorem ins_perm (x : Int × Int) : ∀ l, (ins x l).Perm (x :: l)
  | [] => List.Perm.refl _
  | y :: l => by
    unfold ins
    split
    · exact ((ins_perm x l).cons y).trans (List.Perm.swap x y l)
    · exact List.Perm.refl _
theorem ssort_perm (l : List (Int × Int)) : (ssort l).Perm l := by
  refine snoc_ind (p := fun l => (ssort l).Perm l) (List.Perm.refl _) (fun l x h => ?_) l
  rw [ssort_snoc]
  exact (ins_perm x _).trans ((h.cons x).trans (List.perm_append_comm (l₁ := [x]) (l₂ := l)))
theorem Dis.symm {x y : Int × Int} (h : Dis x y) : Dis y x := ⟨fun e => h.1 e.symm, fun e => h.2.2.1 e.symm, fun e => h.2.1 e.symm, fun e => h.2.2.2 e.symm⟩

/-- What is found. -/
structure Fnd (ch : List Chr) (rs : List Int) (s : Sq) (D : List (Int × Int)) : Prop where
  each : ∀ e ∈ D, 0 ≤ e.1 ∧ e.1 < e.2 ∧ e.2 < (s.pl.length : Int) ∧ ∃ ky, BrA ch rs s e.1 1 ky ∧ BrA ch rs s e.2 2 ky
  dis : D.Pairwise Dis
  inc : D.Pairwise fun x y => x.1 < y.1
  cr : ∀ x ∈ D, ∀ y ∈ D, ¬ (x.1 < y.1 ∧ y.1 < x.2 ∧ x.2 < y.2)
theorem find_crs (ch : List Chr) (rs : List Int) (s : Sq) : Fnd ch rs s (findF ch rs s) := by
  unfold findF
  split
  · have h := fdT_crs ch rs s s.pl.length
    have hd : (ssort (fdT ch rs s s.pl.length).f).Pairwise Dis := ((ssort_perm _).pairwise_iff (fun h => Dis.symm h)).2 h.fdis
    refine ⟨fun e he => h.fo e ((mem_ssort _).1 he), hd, ?_, fun x hx y hy => h.fcr x ((mem_ssort _).1 hx) y ((mem_ssort _).1 hy)⟩
    have hs := ssort_srt (fdT ch rs s s.pl.length).f
    refine List.pairwise_iff_getElem.2 fun i j hi hj hij => ?_
    have h1 := List.pairwise_iff_getElem.1 hs i j hi hj hij
    have h2 := (List.pairwise_iff_getElem.1 hd i j hi hj hij).1
    omega
  · exact ⟨fun e he => (by cases he), List.Pairwise.nil, List.Pairwise.nil, fun x hx => by cases hx⟩
theorem getD_mem {D : List (Int × Int)} {i : Nat} (h : i < D.length) : D.getD i (0, 0) ∈ D := by rw [List.getD_eq_getElem?_getD, List.getElem?_eq_getElem h]; exact List.getElem_mem h
theorem Fnd.inc_at {ch : List Chr} {rs : List Int} {s : Sq} {D : List (Int × Int)} (h : Fnd ch rs s D) {i j : Nat} (hij : i < j) (hj : j < D.length) : (D.getD i (0, 0)).1 < (D.getD j (0, 0)).1 ∧ Dis (D.getD i (0, 0)) (D.getD j (0, 0)) := by
  have h1 := List.pairwise_iff_getElem.1 h.inc i j (by omega) hj hij
  have h2 := List.pairwise_iff_getElem.1 h.dis i j (by omega) hj hij
  rw [List.getD_eq_getElem?_getD, List.getElem?_eq_getElem (by omega), List.getD_eq_getElem?_getD, List.getElem?_eq_getElem hj]
  exact ⟨h1, h2⟩
end Go.Proofs.Ytpdackbcnbhppaa
