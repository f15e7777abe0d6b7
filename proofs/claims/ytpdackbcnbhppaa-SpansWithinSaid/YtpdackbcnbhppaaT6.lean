/- Sequences: the plain word; what is so of level runs. -/
import Derived.Test.YtpdackbcnbhppaaT5
import Derived.Test.YtpdackbcnbhppaaM1
namespace Go.Proofs.Ytpdackbcnbhppaa
open Go.RowKit

theorem grp_flat (lv : List Int) (l : List Int) : (grp lv l).flatten = l := by
  fun_induction grp lv l with
  | case1 => rfl
  | case2 a t ih => rw [List.flatten_cons, ih, List.cons_append, List.take_append_drop]
theorem grp_ne (lv : List Int) (l : List Int) : ∀ g ∈ grp lv l, g ≠ [] := by
  fun_induction grp lv l with
  | case1 => simp
  | case2 a t ih =>
    intro g hg
    rcases List.mem_cons.1 hg with rfl | h
    · simp
    · exact ih g h
theorem grp_level (lv : List Int) (l : List Int) : ∀ g ∈ grp lv l, ∀ y ∈ g, lvAt lv y = lvAt lv (g.getD 0 0) := by
  fun_induction grp lv l with
  | case1 => simp
  | case2 a t ih =>
    intro g hg
    rcases List.mem_cons.1 hg with rfl | h
    · intro y hy
      rcases List.mem_cons.1 hy with rfl | h2
      · simp
      · obtain ⟨i, hi, rfl⟩ := List.getElem_of_mem h2
        have h3 : i < spanN lv (lvAt lv a) t := by have := hi; simp at this; omega
        have h4 : i < t.length := by have := hi; simp at this; omega
        have := spanN_in lv (lvAt lv a) t i h3
        rw [List.getD_eq_getElem?_getD, List.getElem?_eq_getElem h4] at this
        simpa using this
    · exact ih g h

theorem keptT_pw (l : List Int) : ∀ k, (keptT l k).Pairwise (· < ·)
  | 0 => by simp [keptT]
  | k + 1 => by
    have ih := keptT_pw l k
    unfold keptT
    split
    · exact ih
    · rw [List.pairwise_append]
      refine ⟨ih, by simp, ?_⟩
      intro x hx y hy
      obtain ⟨a, rfl, h, _⟩ := keptT_mem.1 hx
      rw [List.mem_singleton] at hy
      subst hy
      omega
theorem keptL_pw (l : List Int) : (keptL l).Pairwise (· < ·) := keptT_pw l _
theorem keptL_mem {l : List Int} {x : Int} : x ∈ keptL l ↔ ∃ a : Nat, x = a ∧ a < l.length ∧ remC (l.getD a 0) = false := keptT_mem

/-- What is so of the runs of a text of n characters. -/
structure RunsGood (n : Nat) (cl : List Int) (rs : List Rn) : Prop where
  lo : ∀ i, i < rs.length → (rs.getD i default).f < (rs.getD i default).t
  hi : ∀ i, i < rs.length → (rs.getD i default).t ≤ n
  kept : ∀ i, i < rs.length → remC (cl.getD (rs.getD i default).f 0) = false
  lt : ∀ i j, i < j → j < rs.length → (rs.getD i default).t ≤ (rs.getD j default).f

theorem getD_mem0 {α : Type} [Inhabited α] {l : List α} (d : α) {i : Nat} (h : i < l.length) : l.getD i d ∈ l := by
  rw [List.getD_eq_getElem?_getD, List.getElem?_eq_getElem h]
  exact List.getElem_mem h
theorem runL_get (lv ks : List Int) {i : Nat} (h : i < (runL lv ks).length) : (runL lv ks).getD i default = toRn lv ((grp lv ks).getD i []) := by
  have h' : i < (grp lv ks).length := by unfold runL at h; simpa using h
  unfold runL
  rw [List.getD_eq_getElem?_getD, List.getElem?_map, List.getElem?_eq_getElem h', List.getD_eq_getElem?_getD, List.getElem?_eq_getElem h']
  rfl

theorem runs_good (lv cl : List Int) : RunsGood cl.length cl (runL lv (keptL cl)) := by
  have hfl := grp_flat lv (keptL cl)
  have hpw := keptL_pw cl
  rw [← hfl, List.pairwise_flatten] at hpw
  obtain ⟨h1, h2⟩ := hpw
  have key : ∀ i, i < (runL lv (keptL cl)).length → ∃ g, (grp lv (keptL cl)).getD i [] = g ∧ g ∈ grp lv (keptL cl) ∧ ∃ a b : Nat, g.getD 0 0 = a ∧ g.getD (g.length - 1) 0 = b ∧ (a : Int) ∈ g ∧ (b : Int) ∈ g ∧ a ≤ b ∧ a < cl.length ∧ b < cl.length ∧ remC (cl.getD a 0) = false ∧
      (runL lv (keptL cl)).getD i default = ⟨a, b + 1, lvAt lv a⟩ := by
    intro i hi
    have h' : i < (grp lv (keptL cl)).length := by unfold runL at hi; simpa using hi
    have hg : (grp lv (keptL cl)).getD i [] ∈ grp lv (keptL cl) := getD_mem0 _ h'
    refine ⟨_, rfl, hg, ?_⟩
    have hne := grp_ne lv _ _ hg
    rw [runL_get lv _ hi]
    generalize (grp lv (keptL cl)).getD i [] = g at *
    have hl : 0 < g.length := List.length_pos_iff.2 hne
    have m0 : g.getD 0 0 ∈ g := getD_mem0 _ hl
    have m1 : g.getD (g.length - 1) 0 ∈ g := getD_mem0 _ (by omega)
    have k0 : g.getD 0 0 ∈ keptL cl := by rw [← hfl]; exact List.mem_flatten_of_mem hg m0
    have k1 : g.getD (g.length - 1) 0 ∈ keptL cl := by rw [← hfl]; exact List.mem_flatten_of_mem hg m1
    obtain ⟨a, ea, la, ra⟩ := keptL_mem.1 k0
    obtain ⟨b, eb, lb, rb⟩ := keptL_mem.1 k1
    have hle : g.getD 0 0 ≤ g.getD (g.length - 1) 0 := by
      rcases Nat.eq_zero_or_pos (g.length - 1) with h0 | h0
      · rw [h0]; exact Int.le_refl _
      · have := List.pairwise_iff_getElem.1 (h1 g hg) 0 (g.length - 1) hl (by omega) h0
        rw [List.getD_eq_getElem?_getD, List.getElem?_eq_getElem hl, List.getD_eq_getElem?_getD, List.getElem?_eq_getElem (by omega)]
        simpa using Int.le_of_lt this
    refine ⟨a, b, ea, eb, by rw [← ea]; exact m0, by rw [← eb]; exact m1, by rw [ea, eb] at hle; omega, la, lb, ra, ?_⟩
    unfold toRn
    rw [ea, eb]
    simp
  refine ⟨?_, ?_, ?_, ?_⟩
  · intro i hi
    obtain ⟨g, _, _, a, b, _, _, _, _, hab, _, _, _, e⟩ := key i hi
    rw [e]; simp; omega
  · intro i hi
    obtain ⟨g, _, _, a, b, _, _, _, _, hab, _, hb, _, e⟩ := key i hi
    rw [e]; simp; omega
  · intro i hi
    obtain ⟨g, _, _, a, b, _, _, _, _, _, _, _, hr, e⟩ := key i hi
    rw [e]; exact hr
  · intro i j hij hj
    obtain ⟨g, eg, _, a, b, _, _, _, mb, _, _, _, _, e⟩ := key i (by omega)
    obtain ⟨g', eg', _, a', b', _, _, ma', _, _, _, _, _, e'⟩ := key j hj
    rw [e, e']
    have hj' : j < (grp lv (keptL cl)).length := by unfold runL at hj; simpa using hj
    have := List.pairwise_iff_getElem.1 h2 i j (by omega) hj' hij
    rw [List.getD_eq_getElem?_getD, List.getElem?_eq_getElem (by omega)] at eg
    rw [List.getD_eq_getElem?_getD, List.getElem?_eq_getElem hj'] at eg'
    simp only [Option.getD_some] at eg eg'
    rw [eg, eg'] at this
    have := this _ mb _ ma'
    simp only
    omega

/-- The run that begins at a place, of the first k; -1: none does. -/
def findR (rs : List Rn) (a : Int) : Nat → Int
  | 0 => -1
  | k + 1 => if (((rs.getD k default).f : Nat) : Int) = a then (k : Int) else findR rs a k
theorem findR_spec (rs : List Rn) (a : Int) : ∀ k, findR rs a k = -1 ∨ ∃ j : Nat, findR rs a k = j ∧ j < k ∧ (((rs.getD j default).f : Nat) : Int) = a
  | 0 => .inl rfl
  | k + 1 => by
    unfold findR
    split
    · rename_i h; exact .inr ⟨k, rfl, by omega, h⟩
    · rcases findR_spec rs a k with h | ⟨j, h1, h2, h3⟩
      · exact .inl h
      · exact .inr ⟨j, h1, by omega, h3⟩
def lastP (r : Rn) : Int := (r.t : Int) - 1
def nxT (cl mt : List Int) (rs : List Rn) (i : Nat) : Int := if begI (lvAt cl (lastP (rs.getD i default))) = true then findR rs (lvAt mt (lastP (rs.getD i default))) rs.length else -1
def ledT (m : Nat) (nx : Nat → Int) : Nat → List Bool
  | 0 => List.replicate m false
  | i + 1 => if 0 ≤ nx i then (ledT m nx i).set (nx i).toNat true else ledT m nx i
theorem ledT_length (m : Nat) (nx : Nat → Int) : ∀ i, (ledT m nx i).length = m
  | 0 => by simp [ledT]
  | i + 1 => by have := ledT_length m nx i; unfold ledT; split <;> simp [this]
def chT (nx : Nat → Int) : Nat → Int → List Nat
  | 0, _ => []
  | fu + 1, k => if k < 0 then [] else k.toNat :: chT nx fu (nx k.toNat)
def NxGood (m : Nat) (nx : Nat → Int) : Prop := ∀ i, i < m → nx i = -1 ∨ ∃ j : Nat, nx i = j ∧ i < j ∧ j < m
theorem chT_neg (nx : Nat → Int) (fu : Nat) : chT nx fu (-1) = [] := by cases fu <;> simp [chT]
theorem chT_fuel {m : Nat} {nx : Nat → Int} (h : NxGood m nx) : ∀ (fu k : Nat), k < m → m - k ≤ fu → chT nx fu k = chT nx (m - k) k
  | 0, k, h1, h2 => by omega
  | fu + 1, k, h1, h2 => by
    obtain ⟨d, hd⟩ : ∃ d, m - k = d + 1 := ⟨m - k - 1, by omega⟩
    rw [hd]
    unfold chT
    rw [if_neg (by omega), if_neg (by omega)]
    have ht : ((k : Int)).toNat = k := rfl
    rw [ht]
    congr 1
    rcases h k h1 with e | ⟨j, e, hj1, hj2⟩
    · rw [e, chT_neg, chT_neg]
    · rw [e, chT_fuel h fu j hj2 (by omega), chT_fuel h d j hj2 (by omega)]
termination_by fu => fu
/-- One more of a chain. -/
theorem chT_step {m : Nat} {nx : Nat → Int} (h : NxGood m nx) {k : Nat} (hk : k < m) : chT nx (m - k) k = k :: (if nx k < 0 then [] else chT nx (m - (nx k).toNat) (nx k)) := by
  obtain ⟨d, hd⟩ : ∃ d, m - k = d + 1 := ⟨m - k - 1, by omega⟩
  rw [hd]
  rw [chT, if_neg (by omega)]
  have ht : ((k : Int)).toNat = k := rfl
  rw [ht]
  congr 1
  rcases h k hk with e | ⟨j, e, hj1, hj2⟩
  · rw [e, chT_neg, if_pos (by omega)]
  · rw [e, if_neg (by omega)]
    exact chT_fuel h d j hj2 (by omega)
theorem chT_bound {n m : Nat} {cl : List Int} {rs : List Rn} (G : RunsGood n cl rs) (hm : m = rs.length) {nx : Nat → Int} (h : NxGood m nx) : ∀ (fu k : Nat), k < m →
    (((chT nx fu k).map (fun i => rs.getD i default)).map (fun r => r.t - r.f)).sum ≤ n - (rs.getD k default).f ∧ ∀ i ∈ chT nx fu k, i < m
  | 0, k, hk => by simp [chT]
  | fu + 1, k, hk => by
    unfold chT
    rw [if_neg (by omega)]
    have ht : ((k : Int)).toNat = k := rfl
    rw [ht]
    have h1 := G.hi k (by omega)
    have h2 := G.lo k (by omega)
    rcases h k hk with e | ⟨j, e, hj1, hj2⟩
    · rw [e, chT_neg]
      simp only [List.map_cons, List.map_nil, List.sum_cons, List.sum_nil, List.mem_singleton]
      exact ⟨by omega, fun i e => by subst e; exact hk⟩
    · rw [e]
      have ih := chT_bound G hm h fu j hj2
      have h3 := G.lt k j hj1 (by omega)
      have h4 := G.hi j (by omega)
      have h5 := G.lo j (by omega)
      constructor
      · rw [List.map_cons, List.map_cons, List.sum_cons]
        omega
      · intro i hi
        rcases List.mem_cons.1 hi with rfl | hi
        · exact hk
        · exact ih.2 i hi

theorem begB : ∀ c : Int, begI c = begins c := fun _ => rfl
/-- A beginning's end, or the text's, stands behind it. -/
theorem match_behind {l : List Int} {a : Nat} (h : a < l.length) (hb : begI (l.getD a 0) = true) : ∃ y : Nat, (matchL l).getD a 0 = y ∧ a < y ∧ y ≤ l.length := by
  have M := mInv_run l.length l (Nat.le_refl _)
  have e : l[a]? = some (l.getD a 0) := by rw [List.getD_eq_getElem?_getD, List.getElem?_eq_getElem h]; rfl
  rw [begB] at hb
  have hm : (matchL l).getD a 0 = ((mRun l.length l).1[a]?).getD 0 := by rw [List.getD_eq_getElem?_getD]; rfl
  rcases M.kind a _ e with ⟨_, h2⟩ | ⟨h1, _⟩ | ⟨y, h1, _, h3, h4⟩
  · rw [h2] at hb; cases hb
  · exact ⟨l.length, by rw [hm, h1]; rfl, h, Nat.le_refl _⟩
  · rcases h4 with ⟨h5, _, _⟩ | ⟨_, h6, _⟩
    · exact ⟨y, by rw [hm, h1]; rfl, h5, by omega⟩
    · rw [h6] at hb; simp [begins] at hb
theorem nx_good (lv cl : List Int) : NxGood (runL lv (keptL cl)).length (nxT cl (matchL cl) (runL lv (keptL cl))) := by
  intro i hi
  have G := runs_good lv cl
  generalize runL lv (keptL cl) = rs at *
  unfold nxT
  split
  · rename_i hb
    rcases findR_spec rs (lvAt (matchL cl) (lastP (rs.getD i default))) rs.length with h | ⟨j, h1, h2, h3⟩
    · exact .inl h
    · refine .inr ⟨j, h1, ?_, h2⟩
      have g1 := G.lo i hi
      have g2 := G.hi i hi
      have hp : lastP (rs.getD i default) = (((rs.getD i default).t - 1 : Nat) : Int) := by unfold lastP; omega
      rw [hp] at hb h3
      obtain ⟨y, e, hy, _⟩ := match_behind (l := cl) (a := (rs.getD i default).t - 1) (by omega) hb
      have e' : lvAt (matchL cl) (((rs.getD i default).t - 1 : Nat) : Int) = y := e
      rw [e'] at h3
      have h4 : (rs.getD i default).f < (rs.getD j default).f := by omega
      rcases Nat.lt_trichotomy i j with h5 | h5 | h5
      · exact h5
      · subst h5; omega
      · have := G.lt j i h5 hi
        have := G.lo j h2
        omega
  · exact .inl rfl

def badK (lv nw : List Int) (a : Int) : Bool := decide (lvAt lv a < 0) || decide (126 < lvAt lv a) || remC (lvAt nw a)
def ixT (n : Nat) (ks : List Int) : Nat → List Int
  | 0 => List.replicate n 0
  | k + 1 => (ixT n ks k).set (ks.getD k 0).toNat (k : Int)
theorem ixT_length (n : Nat) (ks : List Int) : ∀ k, (ixT n ks k).length = n
  | 0 => by simp [ixT]
  | k + 1 => by simp [ixT, ixT_length n ks k]
theorem ixT_bound (n : Nat) (ks : List Int) : ∀ k a, 0 ≤ (ixT n ks k).getD a 0 ∧ (ixT n ks k).getD a 0 ≤ (k : Int)
  | 0, a => by
    simp only [ixT]
    rw [List.getD_eq_getElem?_getD, List.getElem?_replicate]
    split <;> simp
  | k + 1, a => by
    have ih := ixT_bound n ks k a
    simp only [ixT]
    rw [List.getD_eq_getElem?_getD] at *
    rw [List.getElem?_set]
    split
    · split
      · simp; omega
      · simp; omega
    · omega
def outT (x : Txt) (rs : List Rn) (nx : Nat → Int) (ld : List Bool) : Nat → List Sq
  | 0 => []
  | i + 1 => if ld.getD i false = true then outT x rs nx ld i else outT x rs nx ld i ++ [seqOf x ((chT nx (rs.length - i) i).map (fun k => rs.getD k default))]
def txtOf (cl nw lv : List Int) (base : Int) : Txt := ⟨cl, nw, lv, base, keptL cl, ixT cl.length (keptL cl) (keptL cl).length, matchL cl⟩
def seqsOf (x : Txt) (rs : List Rn) : List Sq := outT x rs (nxT x.cl x.mt rs) (ledT rs.length (nxT x.cl x.mt rs) rs.length) rs.length
def seqsL (cl nw lv : List Int) (base : Int) : List Sq × Int :=
  if nw.length ≠ cl.length ∨ lv.length ≠ cl.length ∨ (base ≠ 0 ∧ base ≠ 1) then ([], 2)
  else if (keptL cl).any (badK lv nw) = true then ([], 170)
  else (seqsOf (txtOf cl nw lv base) (runL lv (keptL cl)), 0)
end Go.Proofs.Ytpdackbcnbhppaa
