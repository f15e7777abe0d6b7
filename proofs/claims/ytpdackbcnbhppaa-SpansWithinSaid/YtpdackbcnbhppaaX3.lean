/- Chains of runs: each run stands in just one; what Sequences answers as one list. The places of a chain of runs: all kept characters, each once; one behind the other, but for isolates. Chains of runs: one to one, of one level, their places. -/
import Derived.Test.YtpdackbcnbhppaaT6
namespace Go.Proofs.Ytpdackbcnbhppaa
open Go.RowKit

section
variable {m : Nat} {nx : Nat → Int}
/-- No run goes on in two ways. -/
def NxInj (m : Nat) (nx : Nat → Int) : Prop := ∀ i i' j : Nat, i < m → i' < m → nx i = j → nx i' = j → i = i'
theorem led_iff (h : NxGood m nx) : ∀ k, k ≤ m → ∀ j, j < m → ((ledT m nx k).getD j false = true ↔ ∃ i, i < k ∧ nx i = (j : Int))
  | 0, _, j, hj => by
    simp only [ledT]
    rw [List.getD_eq_getElem?_getD, List.getElem?_replicate, if_pos hj]
    simp
  | k + 1, hk, j, hj => by
    have ih := led_iff h k (by omega) j hj
    have hl := ledT_length m nx k
    unfold ledT
    split
    · rename_i h0
      rcases h k (by omega) with e | ⟨q, e, hq1, hq2⟩
      · omega
      · rw [e, Int.toNat_natCast]
        by_cases hqj : q = j
        · subst hqj
          rw [List.getD_eq_getElem?_getD, List.getElem?_set_self (by omega)]
          exact ⟨fun _ => ⟨k, by omega, e⟩, fun _ => rfl⟩
        · rw [List.getD_eq_getElem?_getD, List.getElem?_set_ne hqj, ← List.getD_eq_getElem?_getD, ih]
          constructor
          · rintro ⟨i, hi, h2⟩; exact ⟨i, by omega, h2⟩
          · rintro ⟨i, hi, h2⟩
            refine ⟨i, ?_, h2⟩
            rcases Nat.lt_or_ge i k with h3 | h3
            · exact h3
            · have e2 : i = k := by omega
              rw [e2, e] at h2; omega
    · rename_i h0
      rw [ih]
      constructor
      · rintro ⟨i, hi, h2⟩; exact ⟨i, by omega, h2⟩
      · rintro ⟨i, hi, h2⟩
        refine ⟨i, ?_, h2⟩
        rcases Nat.lt_or_ge i k with h3 | h3
        · exact h3
        · have e2 : i = k := by omega
          rw [e2] at h2; omega

/-- The chain from a run on. -/
def ch (m : Nat) (nx : Nat → Int) (i : Nat) : List Nat := chT nx (m - i) i
theorem ch_neg (h : NxGood m nx) {i : Nat} (hi : i < m) (hn : nx i = -1) : ch m nx i = [i] := by
  unfold ch; rw [chT_step h hi, if_pos (by omega)]
theorem ch_go (h : NxGood m nx) {i j : Nat} (hi : i < m) (hn : nx i = (j : Int)) : ch m nx i = i :: ch m nx j := by
  unfold ch; rw [chT_step h hi, if_neg (by omega), hn, Int.toNat_natCast]
theorem ch_ind (h : NxGood m nx) {p : Nat → Prop} (h0 : ∀ i, i < m → nx i = -1 → p i) (h1 : ∀ i j : Nat, i < m → i < j → j < m → nx i = j → p j → p i) : ∀ (d i : Nat), i < m → m - i ≤ d → p i
  | 0, i, hi, hd => by omega
  | d + 1, i, hi, hd => by
    rcases h i hi with e | ⟨j, e, hj1, hj2⟩
    · exact h0 i hi e
    · exact h1 i j hi hj1 hj2 e (ch_ind h h0 h1 d j hj2 (by omega))
theorem ch_ge (h : NxGood m nx) {i : Nat} (hi : i < m) : ∀ j ∈ ch m nx i, i ≤ j ∧ j < m := by
  refine ch_ind h (p := fun i => ∀ j ∈ ch m nx i, i ≤ j ∧ j < m) (fun i hi e => ?_) (fun i j hi hij hj e ih => ?_) (m - i) i hi (Nat.le_refl _)
  · rw [ch_neg h hi e]; intro j hj; simp at hj; omega
  · rw [ch_go h hi e]
    intro k hk
    rcases List.mem_cons.1 hk with rfl | hk
    · omega
    · have := ih k hk; omega
theorem ch_pw (h : NxGood m nx) {i : Nat} (hi : i < m) : (ch m nx i).Pairwise (· < ·) := by
  refine ch_ind h (p := fun i => (ch m nx i).Pairwise (· < ·)) (fun i hi e => ?_) (fun i j hi hij hj e ih => ?_) (m - i) i hi (Nat.le_refl _)
  · rw [ch_neg h hi e]; exact List.pairwise_singleton _ _
  · rw [ch_go h hi e]
    exact List.pairwise_cons.2 ⟨fun k hk => by have := ch_ge h hj k hk; omega, ih⟩
theorem ch_self (h : NxGood m nx) {i : Nat} (hi : i < m) : i ∈ ch m nx i := by
  rcases h i hi with e | ⟨j, e, _, _⟩
  · rw [ch_neg h hi e]; simp
  · rw [ch_go h hi e]; simp
theorem ch_succ (h : NxGood m nx) {i : Nat} (hi : i < m) : ∀ j ∈ ch m nx i, ∀ k : Nat, nx j = k → k ∈ ch m nx i := by
  refine ch_ind h (p := fun i => ∀ j ∈ ch m nx i, ∀ k : Nat, nx j = k → k ∈ ch m nx i) (fun i hi e => ?_) (fun i j hi hij hj e ih => ?_) (m - i) i hi (Nat.le_refl _)
  · rw [ch_neg h hi e]; intro j hj k hk; simp at hj; subst hj; omega
  · rw [ch_go h hi e]
    intro q hq k hk
    rcases List.mem_cons.1 hq with rfl | hq
    · rw [hk] at e
      have e2 : k = j := by omega
      subst e2
      exact List.mem_cons_of_mem _ (ch_self h hj)
    · exact List.mem_cons_of_mem _ (ih q hq k hk)
theorem ch_pred (h : NxGood m nx) {i : Nat} (hi : i < m) : ∀ j ∈ ch m nx i, j = i ∨ ∃ k ∈ ch m nx i, nx k = (j : Int) := by
  refine ch_ind h (p := fun i => ∀ j ∈ ch m nx i, j = i ∨ ∃ k ∈ ch m nx i, nx k = (j : Int)) (fun i hi e => ?_) (fun i j hi hij hj e ih => ?_) (m - i) i hi (Nat.le_refl _)
  · rw [ch_neg h hi e]; intro j hj; simp at hj; exact .inl hj
  · rw [ch_go h hi e]
    intro q hq
    rcases List.mem_cons.1 hq with rfl | hq
    · exact .inl rfl
    · right
      rcases ih q hq with rfl | ⟨k, hk, h2⟩
      · exact ⟨i, List.mem_cons_self, e⟩
      · exact ⟨k, List.mem_cons_of_mem _ hk, h2⟩

/-- A run that no other goes on in. -/
def leadB (m : Nat) (nx : Nat → Int) (i : Nat) : Bool := !(ledT m nx m).getD i false
theorem lead_iff (h : NxGood m nx) {j : Nat} (hj : j < m) : leadB m nx j = true ↔ ∀ i, i < m → nx i ≠ (j : Int) := by
  have := led_iff h m (Nat.le_refl _) j hj
  unfold leadB
  rcases hb : (ledT m nx m).getD j false with _ | _
  · rw [hb] at this
    simp only [Bool.not_false, true_iff]
    intro i hi e
    have := this.2 ⟨i, hi, e⟩; cases this
  · rw [hb] at this
    simp only [Bool.not_true, Bool.false_eq_true, false_iff]
    intro h2
    obtain ⟨i, hi, e⟩ := this.1 rfl
    exact h2 i hi e
/-- Each run stands in the chain of a first one. -/
theorem ch_cover (h : NxGood m nx) : ∀ (d j : Nat), j < d → j < m → ∃ i, i < m ∧ leadB m nx i = true ∧ j ∈ ch m nx i
  | 0, j, hd, _ => by omega
  | d + 1, j, hd, hj => by
    by_cases hl : leadB m nx j = true
    · exact ⟨j, hj, hl, ch_self h hj⟩
    · have hl2 : ¬ ∀ i, i < m → nx i ≠ (j : Int) := fun h2 => hl ((lead_iff h hj).2 h2)
      obtain ⟨i, hi⟩ := Classical.not_forall.1 hl2
      have him : i < m := by
        rcases Nat.lt_or_ge i m with h3 | h3
        · exact h3
        · exact absurd (fun h4 => absurd h4 (by omega)) hi
      have he : nx i = (j : Int) := by
        rcases Classical.em (nx i = (j : Int)) with h3 | h3
        · exact h3
        · exact absurd (fun _ => h3) hi
      have hij : i < j := by
        rcases h i him with e | ⟨q, e, h1, _⟩ <;> omega
      obtain ⟨k, h1, h2, h3⟩ := ch_cover h d i (by omega) him
      exact ⟨k, h1, h2, ch_succ h h1 i h3 j he⟩
/-- .. of one alone. -/
theorem ch_once (h : NxGood m nx) (hI : NxInj m nx) {i i' : Nat} (hi : i < m) (hi' : i' < m) (hl : leadB m nx i = true) (hl' : leadB m nx i' = true) : ∀ (d j : Nat), j < d → j ∈ ch m nx i → j ∈ ch m nx i' → i = i'
  | 0, j, hd, _, _ => by omega
  | d + 1, j, hd, h1, h2 => by
    rcases ch_pred h hi j h1 with e1 | ⟨k, hk, e1⟩
    · rcases ch_pred h hi' j h2 with e2 | ⟨k', hk', e2⟩
      · rw [← e1, ← e2]
      · have := (lead_iff h hi).1 hl k' (ch_ge h hi' k' hk').2
        rw [← e1] at this; exact absurd e2 this
    · rcases ch_pred h hi' j h2 with e2 | ⟨k', hk', e2⟩
      · have := (lead_iff h hi').1 hl' k (ch_ge h hi k hk).2
        rw [← e2] at this; exact absurd e1 this
      · have hkm := (ch_ge h hi k hk).2
        have hkm' := (ch_ge h hi' k' hk').2
        have e3 := hI k k' j hkm hkm' e1 e2
        subst e3
        have hkj : k < j := by
          rcases h k hkm with e | ⟨q, e, h3, _⟩ <;> omega
        exact ch_once h hI hi hi' hl hl' d k (by omega) hk hk'

def leads (m : Nat) (nx : Nat → Int) : List Nat := (List.range m).filter (leadB m nx)
theorem leads_mem {i : Nat} : i ∈ leads m nx ↔ i < m ∧ leadB m nx i = true := by unfold leads; rw [List.mem_filter, List.mem_range]
theorem leads_pw : (leads m nx).Pairwise (· < ·) := List.Pairwise.filter _ List.pairwise_lt_range
theorem chains_nodup (h : NxGood m nx) (hI : NxInj m nx) : ((leads m nx).flatMap (ch m nx)).Nodup := by
  unfold List.Nodup
  rw [List.pairwise_flatMap]
  refine ⟨fun i hi => (ch_pw h (leads_mem.1 hi).1).imp (fun h e => by omega), ?_⟩
  refine List.Pairwise.imp_of_mem ?_ leads_pw
  intro i i' hi hi' hlt x hx y hy e
  subst e
  have := ch_once h hI (leads_mem.1 hi).1 (leads_mem.1 hi').1 (leads_mem.1 hi).2 (leads_mem.1 hi').2 (x + 1) x (by omega) hx hy
  omega
theorem chains_perm (h : NxGood m nx) (hI : NxInj m nx) : ((leads m nx).flatMap (ch m nx)).Perm (List.range m) := by
  refine (List.perm_ext_iff_of_nodup (chains_nodup h hI) List.nodup_range).2 fun j => ?_
  rw [List.mem_flatMap, List.mem_range]
  constructor
  · rintro ⟨i, hi, hj⟩; exact (ch_ge h (leads_mem.1 hi).1 j hj).2
  · intro hj
    obtain ⟨i, h1, h2, h3⟩ := ch_cover h (j + 1) j (by omega) hj
    exact ⟨i, leads_mem.2 ⟨h1, h2⟩, h3⟩
end

theorem outT_eq (x : Txt) (rs : List Rn) (nx : Nat → Int) : ∀ k, outT x rs nx (ledT rs.length nx rs.length) k = ((List.range k).filter (leadB rs.length nx)).map fun i => seqOf x ((ch rs.length nx i).map fun j => rs.getD j default)
  | 0 => rfl
  | k + 1 => by
    have ih := outT_eq x rs nx k
    unfold outT
    rw [List.range_succ, List.filter_append, List.map_append, ← ih]
    rcases hb : (ledT rs.length nx rs.length).getD k false with _ | _
    · have e : leadB rs.length nx k = true := by unfold leadB; rw [hb]; rfl
      rw [if_neg (by decide), List.filter_cons, if_pos e]
      rfl
    · have e : leadB rs.length nx k = false := by unfold leadB; rw [hb]; rfl
      rw [if_pos rfl, List.filter_cons, if_neg (by rw [e]; decide)]
      simp
end Go.Proofs.Ytpdackbcnbhppaa

namespace Go.Proofs.Ytpdackbcnbhppaa
open Go.RowKit

theorem sorted_ext : ∀ {l l' : List Int}, l.Pairwise (· < ·) → l'.Pairwise (· < ·) → (∀ x, x ∈ l ↔ x ∈ l') → l = l'
  | [], [], _, _, _ => rfl
  | [], b :: t, _, _, h => by have := (h b).2 List.mem_cons_self; cases this
  | a :: t, [], _, _, h => by have := (h a).1 List.mem_cons_self; cases this
  | a :: t, b :: t', h1, h2, h => by
    obtain ⟨p1, p2⟩ := List.pairwise_cons.1 h1
    obtain ⟨q1, q2⟩ := List.pairwise_cons.1 h2
    have e : a = b := by
      rcases List.mem_cons.1 ((h a).1 List.mem_cons_self) with e | e
      · exact e
      · rcases List.mem_cons.1 ((h b).2 List.mem_cons_self) with e2 | e2
        · exact e2.symm
        · have := p1 b e2; have := q1 a e; omega
    subst e
    congr 1
    refine sorted_ext p2 q2 fun x => ⟨fun hx => ?_, fun hx => ?_⟩
    · rcases List.mem_cons.1 ((h x).1 (List.mem_cons_of_mem _ hx)) with e | e
      · have := p1 x hx; omega
      · exact e
    · rcases List.mem_cons.1 ((h x).2 (List.mem_cons_of_mem _ hx)) with e | e
      · have := q1 x hx; omega
      · exact e
theorem rangeP_pw (cl : List Int) (f : Nat) : ∀ k, (rangeP cl f k).Pairwise (· < ·)
  | 0 => List.Pairwise.nil
  | k + 1 => by
    unfold rangeP
    split
    · exact rangeP_pw cl f k
    · refine List.pairwise_append.2 ⟨rangeP_pw cl f k, List.pairwise_singleton _ _, fun x hx y hy => ?_⟩
      obtain ⟨a, h1, _, h2, _⟩ := rangeP_mem.1 hx
      rw [List.mem_singleton] at hy
      omega

/-- The groups of kept characters. -/
structure Grps (lv cl : List Int) (gs : List (List Int)) : Prop where
  flat : gs.flatten = keptL cl
  ne : ∀ g ∈ gs, g ≠ []
  level : ∀ g ∈ gs, ∀ y ∈ g, lvAt lv y = lvAt lv (g.getD 0 0)
  pw : ∀ g ∈ gs, g.Pairwise (· < ·)
  ord : gs.Pairwise fun g g' => ∀ x ∈ g, ∀ y ∈ g', x < y
theorem grps (lv cl : List Int) : Grps lv cl (grp lv (keptL cl)) := by
  have hpw := keptL_pw cl
  rw [← grp_flat lv (keptL cl), List.pairwise_flatten] at hpw
  exact ⟨grp_flat _ _, grp_ne _ _, grp_level _ _, hpw.1, hpw.2⟩
section
variable {lv cl : List Int} {gs : List (List Int)}
theorem Grps.kept (h : Grps lv cl gs) {g : List Int} (hg : g ∈ gs) {x : Int} (hx : x ∈ g) : ∃ a : Nat, x = a ∧ a < cl.length ∧ remC (cl.getD a 0) = false :=
  keptL_mem.1 (by rw [← h.flat]; exact List.mem_flatten_of_mem hg hx)
theorem pw_le {g : List Int} (h : g.Pairwise (· < ·)) {i j : Nat} (hij : i ≤ j) (hj : j < g.length) : g.getD i 0 ≤ g.getD j 0 := by
  rw [List.getD_eq_getElem?_getD, List.getD_eq_getElem?_getD, List.getElem?_eq_getElem (by omega), List.getElem?_eq_getElem hj]
  simp only [Option.getD_some]
  rcases Nat.lt_or_ge i j with h1 | h1
  · exact Int.le_of_lt (List.pairwise_iff_getElem.1 h i j (by omega) hj h1)
  · have e : i = j := by omega
    subst e; exact Int.le_refl _
theorem mem_ends {g : List Int} (h : g.Pairwise (· < ·)) {x : Int} (hx : x ∈ g) : g.getD 0 0 ≤ x ∧ x ≤ g.getD (g.length - 1) 0 := by
  obtain ⟨i, hi, rfl⟩ := List.mem_iff_getElem.1 hx
  have e : g[i] = g.getD i 0 := by rw [List.getD_eq_getElem?_getD, List.getElem?_eq_getElem hi]; rfl
  rw [e]
  exact ⟨pw_le h (by omega) hi, pw_le h (by omega) (by omega)⟩
/-- A kept character between two of a group is in it. -/
theorem Grps.between (h : Grps lv cl gs) {g : List Int} (hg : g ∈ gs) {x y : Int} (hx : x ∈ g) (hy : y ∈ g) {a : Nat} (h1 : x ≤ a) (h2 : (a : Int) ≤ y) (ha : a < cl.length) (hr : remC (cl.getD a 0) = false) : (a : Int) ∈ g := by
  have hm : (a : Int) ∈ gs.flatten := by rw [h.flat]; exact keptL_mem.2 ⟨a, rfl, ha, hr⟩
  obtain ⟨g', hg', hm'⟩ := List.mem_flatten.1 hm
  obtain ⟨i, hi, rfl⟩ := List.mem_iff_getElem.1 hg
  obtain ⟨j, hj, rfl⟩ := List.mem_iff_getElem.1 hg'
  rcases Nat.lt_trichotomy i j with h3 | h3 | h3
  · have := List.pairwise_iff_getElem.1 h.ord i j hi hj h3 y hy _ hm'; omega
  · subst h3; exact hm'
  · have := List.pairwise_iff_getElem.1 h.ord j i hj hi h3 _ hm' x hx; omega
/-- The places of a run are its group. -/
theorem Grps.run (h : Grps lv cl gs) {g : List Int} (hg : g ∈ gs) : runP cl (toRn lv g) = g := by
  have hp := h.pw g hg
  have hl : 0 < g.length := List.length_pos_iff.2 (h.ne g hg)
  obtain ⟨a, ea, la, ra⟩ := h.kept hg (getD_mem0 (0 : Int) (l := g) (i := 0) hl)
  obtain ⟨b, eb, lb, rb⟩ := h.kept hg (getD_mem0 (0 : Int) (l := g) (i := g.length - 1) (by omega))
  have hab := pw_le hp (i := 0) (j := g.length - 1) (by omega) (by omega)
  have hF : (toRn lv g).f = a := by show (g.getD 0 0).toNat = a; rw [ea]; rfl
  have hT : (toRn lv g).t = b + 1 := by show (g.getD (g.length - 1) 0).toNat + 1 = b + 1; rw [eb]; rfl
  refine sorted_ext (rangeP_pw _ _ _) hp fun x => ?_
  show x ∈ rangeP cl (toRn lv g).f ((toRn lv g).t - (toRn lv g).f) ↔ _
  rw [rangeP_mem, hF, hT]
  constructor
  · rintro ⟨c, rfl, h1, h2, h3⟩
    exact h.between hg (getD_mem0 (0 : Int) (l := g) (i := 0) hl) (getD_mem0 (0 : Int) (l := g) (i := g.length - 1) (by omega)) (by omega) (by omega) (by omega) h3
  · intro hx
    obtain ⟨c, rfl, h1, h2⟩ := h.kept hg hx
    have := mem_ends hp hx
    exact ⟨c, rfl, by omega, by omega, h2⟩
end
end Go.Proofs.Ytpdackbcnbhppaa

namespace Go.Proofs.Ytpdackbcnbhppaa
open Go.RowKit

theorem match_back {cl : List Int} {a y : Nat} (ha : a < cl.length) (hm : (matchL cl).getD a 0 = (y : Int)) (hy : y < cl.length) : (matchL cl).getD y 0 = (a : Int) := by
  have M := mInv_run cl.length cl (Nat.le_refl _)
  have e : cl[a]? = some (cl.getD a 0) := by rw [List.getD_eq_getElem?_getD, List.getElem?_eq_getElem ha]; rfl
  have h1 : ((mRun cl.length cl).1[a]?).getD 0 = (y : Int) := by rw [← hm, List.getD_eq_getElem?_getD]; rfl
  have h2 : (matchL cl).getD y 0 = ((mRun cl.length cl).1[y]?).getD 0 := by rw [List.getD_eq_getElem?_getD]; rfl
  rw [h2]
  rcases M.kind a _ e with ⟨h3, _⟩ | ⟨h3, _⟩ | ⟨z, h3, h4, _, _⟩
  · rw [h3] at h1; simp only [Option.getD_some] at h1; omega
  · rw [h3] at h1; simp only [Option.getD_some] at h1; omega
  · rw [h3] at h1
    have e2 : z = y := by simp only [Option.getD_some] at h1; omega
    subst e2
    rw [h4]; rfl

theorem fm_congr {α β : Type} {f g : α → List β} : ∀ {l : List α}, (∀ x ∈ l, f x = g x) → l.flatMap f = l.flatMap g
  | [], _ => rfl
  | a :: l, h => by rw [List.flatMap_cons, List.flatMap_cons, h a List.mem_cons_self, fm_congr fun x hx => h x (List.mem_cons_of_mem _ hx)]
section
variable {lv cl : List Int}
/-- The group of a run. -/
def grpAt (lv cl : List Int) (i : Nat) : List Int := (grp lv (keptL cl)).getD i []
def rnL (lv cl : List Int) : List Rn := runL lv (keptL cl)
def nxQ (lv cl : List Int) : Nat → Int := nxT cl (matchL cl) (rnL lv cl)
theorem rnL_len : (rnL lv cl).length = (grp lv (keptL cl)).length := by unfold rnL runL; rw [List.length_map]
theorem grpAt_mem {i : Nat} (h : i < (rnL lv cl).length) : grpAt lv cl i ∈ grp lv (keptL cl) := getD_mem0 _ (by rw [← rnL_len]; exact h)
theorem rnL_at {i : Nat} (h : i < (rnL lv cl).length) : (rnL lv cl).getD i default = toRn lv (grpAt lv cl i) := runL_get lv _ h
theorem first_last {i : Nat} (h : i < (rnL lv cl).length) : ∃ a b : Nat, (grpAt lv cl i).getD 0 0 = a ∧ (grpAt lv cl i).getD ((grpAt lv cl i).length - 1) 0 = b ∧ a < cl.length ∧ b < cl.length ∧ a ≤ b ∧
    (a : Int) ∈ grpAt lv cl i ∧ (b : Int) ∈ grpAt lv cl i ∧ ((rnL lv cl).getD i default).f = a ∧ lastP ((rnL lv cl).getD i default) = b ∧ ((rnL lv cl).getD i default).v = lvAt lv a := by
  have H := grps lv cl
  have hg := grpAt_mem h
  have hl : 0 < (grpAt lv cl i).length := List.length_pos_iff.2 (H.ne _ hg)
  have m0 := getD_mem0 (0 : Int) (l := grpAt lv cl i) (i := 0) hl
  have m1 := getD_mem0 (0 : Int) (l := grpAt lv cl i) (i := (grpAt lv cl i).length - 1) (by omega)
  obtain ⟨a, ea, la, _⟩ := H.kept hg m0
  obtain ⟨b, eb, lb, _⟩ := H.kept hg m1
  have hab := pw_le (H.pw _ hg) (i := 0) (j := (grpAt lv cl i).length - 1) (by omega) (by omega)
  rw [rnL_at h]
  have hF : (toRn lv (grpAt lv cl i)).f = a := by show ((grpAt lv cl i).getD 0 0).toNat = a; rw [ea]; rfl
  have hT : (toRn lv (grpAt lv cl i)).t = b + 1 := by show ((grpAt lv cl i).getD ((grpAt lv cl i).length - 1) 0).toNat + 1 = b + 1; rw [eb]; rfl
  refine ⟨a, b, ea, eb, la, lb, by omega, by rw [← ea]; exact m0, by rw [← eb]; exact m1, hF, ?_, ?_⟩
  · unfold lastP; rw [hT]; omega
  · show lvAt lv ((grpAt lv cl i).getD 0 0) = _; rw [ea]
theorem nxQ_good : NxGood (rnL lv cl).length (nxQ lv cl) := nx_good lv cl
/-- Where a run goes on. -/
theorem nxQ_spec {i j : Nat} (h : i < (rnL lv cl).length) (hn : nxQ lv cl i = (j : Int)) : j < (rnL lv cl).length ∧ i < j ∧ ∃ a b : Nat, (grpAt lv cl j).getD 0 0 = a ∧ (grpAt lv cl i).getD ((grpAt lv cl i).length - 1) 0 = b ∧ a < cl.length ∧ b < cl.length ∧
    begI (cl.getD b 0) = true ∧ (matchL cl).getD b 0 = (a : Int) := by
  have hg : i < j ∧ j < (rnL lv cl).length := by
    rcases nxQ_good (lv := lv) (cl := cl) i h with e | ⟨q, e, h1, h2⟩ <;> rw [hn] at e
    · omega
    · have e2 : q = j := by omega
      subst e2; exact ⟨h1, h2⟩
  obtain ⟨a', b, ea', eb, la', lb, _, _, _, _, hL, _⟩ := first_last h
  obtain ⟨a, b', ea, eb', la, lb', _, _, _, hF, _, _⟩ := first_last hg.2
  refine ⟨hg.2, hg.1, a, b, ea, eb, la, lb, ?_⟩
  have hn2 := hn
  unfold nxQ nxT at hn2
  rw [hL] at hn2
  split at hn2
  · rename_i hb
    refine ⟨hb, ?_⟩
    rcases findR_spec (rnL lv cl) (lvAt (matchL cl) b) (rnL lv cl).length with e | ⟨q, e, h1, h2⟩
    · rw [hn2] at e; omega
    · rw [hn2] at e
      have e2 : q = j := by omega
      subst e2
      rw [hF] at h2
      exact h2.symm
  · omega
theorem grp_lt {i j : Nat} (hij : i < j) (hj : j < (rnL lv cl).length) {x y : Int} (hx : x ∈ grpAt lv cl i) (hy : y ∈ grpAt lv cl j) : x < y := by
  have hl := rnL_len (lv := lv) (cl := cl)
  have := List.pairwise_iff_getElem.1 (grps lv cl).ord i j (by omega) (by omega) hij
  unfold grpAt at hx hy
  rw [List.getD_eq_getElem?_getD, List.getElem?_eq_getElem (by omega)] at hx hy
  exact this x hx y hy
theorem nxQ_inj : NxInj (rnL lv cl).length (nxQ lv cl) := by
  intro i i' j hi hi' h1 h2
  obtain ⟨_, _, a, b, e1, e2, la, lb, _, hm⟩ := nxQ_spec hi h1
  obtain ⟨_, _, a', b', e1', e2', la', lb', _, hm'⟩ := nxQ_spec hi' h2
  rw [e1] at e1'
  have ea : a = a' := by omega
  subst ea
  have m1 := match_back lb hm la
  have m2 := match_back lb' hm' la
  rw [m1] at m2
  have eb : b = b' := by omega
  subst eb
  obtain ⟨_, c, _, ec, _, _, _, _, mc, _⟩ := first_last hi
  obtain ⟨_, c', _, ec', _, _, _, _, mc', _⟩ := first_last hi'
  rcases Nat.lt_trichotomy i i' with h3 | h3 | h3
  · have := grp_lt h3 hi' mc mc'
    rw [ec] at e2; rw [ec'] at e2'; omega
  · exact h3
  · have := grp_lt h3 hi mc' mc
    rw [ec] at e2; rw [ec'] at e2'; omega

/-- Where isolates' ends have their beginnings' levels. -/
def LvMt (lv cl : List Int) : Prop := ∀ a y : Nat, a < cl.length → begI (cl.getD a 0) = true → (matchL cl).getD a 0 = (y : Int) → y < cl.length → lv.getD y 0 = lv.getD a 0
theorem nxQ_level (H : LvMt lv cl) {i j : Nat} (h : i < (rnL lv cl).length) (hn : nxQ lv cl i = (j : Int)) : ((rnL lv cl).getD j default).v = ((rnL lv cl).getD i default).v := by
  obtain ⟨hj, hij, a, b, e1, e2, la, lb, hb, hm⟩ := nxQ_spec h hn
  obtain ⟨a1, b1, f1, f2, _, _, _, m1, m2, _, _, hv1⟩ := first_last h
  obtain ⟨a2, b2, g1, g2, _, _, _, _, _, _, _, hv2⟩ := first_last hj
  rw [e1] at g1; rw [e2] at f2
  have h1 : a = a2 := by omega
  have h2 : b = b1 := by omega
  subst h1 h2
  rw [hv1, hv2]
  have := H b a lb hb hm la
  have h3 := (grps lv cl).level _ (grpAt_mem h) _ m2
  rw [f1] at h3
  show lv.getD ((a : Int)).toNat 0 = _
  rw [Int.toNat_natCast, this]
  exact h3
theorem ch_level (H : LvMt lv cl) {i : Nat} (h : i < (rnL lv cl).length) : ∀ j ∈ ch (rnL lv cl).length (nxQ lv cl) i, ((rnL lv cl).getD j default).v = ((rnL lv cl).getD i default).v := by
  refine ch_ind nxQ_good (p := fun i => ∀ j ∈ ch (rnL lv cl).length (nxQ lv cl) i, ((rnL lv cl).getD j default).v = ((rnL lv cl).getD i default).v) (fun i hi e => ?_) (fun i j hi hij hj e ih => ?_) _ i h (Nat.le_refl _)
  · rw [ch_neg nxQ_good hi e]; intro j hj; simp at hj; rw [hj]
  · rw [ch_go nxQ_good hi e]
    intro q hq
    rcases List.mem_cons.1 hq with rfl | hq
    · rfl
    · rw [ih q hq, nxQ_level H hi e]

/-- The places of a sequence. -/
def plL (lv cl : List Int) (i : Nat) : List Int := (ch (rnL lv cl).length (nxQ lv cl) i).flatMap (grpAt lv cl)
theorem seqP_ch {i : Nat} (h : i < (rnL lv cl).length) : seqP cl ((ch (rnL lv cl).length (nxQ lv cl) i).map fun j => (rnL lv cl).getD j default) = plL lv cl i := by
  unfold seqP plL
  rw [List.flatMap_map]
  refine fm_congr fun j hj => ?_
  have := (ch_ge nxQ_good h j hj).2
  rw [rnL_at this, (grps lv cl).run (grpAt_mem this)]
theorem range_flat {α : Type} : ∀ (gs : List (List α)), (List.range gs.length).flatMap (fun i => gs.getD i []) = gs.flatten
  | [] => rfl
  | g :: gs => by
    rw [List.length_cons, List.range_succ_eq_map, List.flatMap_cons, List.flatMap_map, List.flatten_cons, ← range_flat gs]
    rfl
theorem places_perm : ((leads (rnL lv cl).length (nxQ lv cl)).flatMap (plL lv cl)).Perm (keptL cl) := by
  have h := (chains_perm nxQ_good (nxQ_inj (lv := lv) (cl := cl))).flatMap_right (grpAt lv cl)
  rw [List.flatMap_assoc] at h
  refine h.trans ?_
  rw [rnL_len]
  unfold grpAt
  rw [range_flat, (grps lv cl).flat]
theorem plL_ne {i : Nat} (h : i < (rnL lv cl).length) : ∃ t, plL lv cl i = (grpAt lv cl i).getD 0 0 :: t := by
  have hne : grpAt lv cl i ≠ [] := (grps lv cl).ne _ (grpAt_mem h)
  unfold plL
  rcases nxQ_good (lv := lv) (cl := cl) i h with e | ⟨j, e, _, _⟩
  · rw [ch_neg nxQ_good h e, List.flatMap_cons]
    obtain ⟨x, t, hx⟩ := List.exists_cons_of_ne_nil hne
    rw [hx]; exact ⟨_, rfl⟩
  · rw [ch_go nxQ_good h e, List.flatMap_cons]
    obtain ⟨x, t, hx⟩ := List.exists_cons_of_ne_nil hne
    rw [hx]; exact ⟨_, rfl⟩
end
end Go.Proofs.Ytpdackbcnbhppaa
