/- Removed characters put in anywhere change nothing but places: the plain law, its second half (sequences). -/
import Derived.Test.YthifeccmbojcdaaV1
namespace Go.Proofs.Ythifeccmbojcdaa

section
variable {cl lv cl' lv' : List Int} {μ : Nat → Nat}

theorem map_getD_lt {α β : Type} [Inhabited α] [Inhabited β] (f : α → β) {l : List α} {i : Nat} (h : i < l.length) : (l.map f).getD i default = f (l.getD i default) := by
  rw [List.getD_eq_getElem?_getD, List.getElem?_map, List.getD_eq_getElem?_getD, List.getElem?_eq_getElem h]; rfl
theorem map_getD0 (f : Int → Int) {l : List Int} {i : Nat} (h : i < l.length) : (l.map f).getD i 0 = f (l.getD i 0) := by
  rw [List.getD_eq_getElem?_getD, List.getElem?_map, List.getD_eq_getElem?_getD, List.getElem?_eq_getElem h]; rfl

theorem find_map (E : Emb cl lv cl' lv' μ) {rs : List Rn} (hf : ∀ i, i < rs.length → (rs.getD i default).f < cl.length) {x x' : Int} (hx : ∀ a, a < cl.length → (((μ a : Nat) : Int) = x' ↔ (a : Int) = x)) :
    ∀ k, k ≤ rs.length → findR (rs.map (Rmv μ)) x' k = findR rs x k
  | 0, _ => rfl
  | k + 1, hk => by
    unfold findR
    rw [map_getD_lt (Rmv μ) (by omega), find_map E hf hx k (by omega)]
    have e : ((Rmv μ (rs.getD k default)).f : Int) = ((μ (rs.getD k default).f : Nat) : Int) := rfl
    rw [e]
    by_cases h : (((rs.getD k default).f : Nat) : Int) = x
    · rw [if_pos h, if_pos ((hx _ (hf k (by omega))).2 h)]
    · rw [if_neg h, if_neg (fun h2 => h ((hx _ (hf k (by omega))).1 h2))]

theorem mo_last (E : Emb cl lv cl' lv' μ) {o : Int} (h0 : 0 ≤ o) (h1 : o ≤ cl.length) : ∀ a, a < cl.length → (((μ a : Nat) : Int) = Mo μ cl.length cl'.length o ↔ (a : Int) = o) := by
  intro a ha
  unfold Mo
  rw [if_neg (by omega)]
  by_cases h : o = cl.length
  · rw [if_pos h]
    have := E.lt a ha
    constructor <;> intro <;> omega
  · rw [if_neg h]
    obtain ⟨b, rfl⟩ : ∃ b : Nat, o = b := ⟨o.toNat, by omega⟩
    rw [Mv_nat]
    constructor
    · intro e; have := E.inj ha (by omega) (show μ a = μ b by omega); omega
    · intro e; have : a = b := by omega
      subst this; rfl

/-- The run behind a run. -/
theorem Emb.nx (E : Emb cl lv cl' lv' μ) {rs : List Rn} (G : RunsGood cl.length cl rs) {i : Nat} (hi : i < rs.length) : nxT cl' (matchL cl') (rs.map (Rmv μ)) i = nxT cl (matchL cl) rs i := by
  have g1 := G.lo i hi
  have g2 := G.hi i hi
  unfold nxT
  rw [map_getD_lt (Rmv μ) hi, List.length_map]
  have e : lastP (Rmv μ (rs.getD i default)) = Mv μ (((rs.getD i default).t - 1 : Nat) : Int) := by unfold lastP Rmv; rw [Mv_nat]; simp
  have e2 : lastP (rs.getD i default) = (((rs.getD i default).t - 1 : Nat) : Int) := by unfold lastP; omega
  rw [e, e2, E.clAt (by omega), E.match_ (by omega)]
  by_cases hb : begI (lvAt cl (((rs.getD i default).t - 1 : Nat) : Int)) = true
  · rw [if_pos hb, if_pos hb]
    obtain ⟨y, ey, _, hy⟩ := match_behind (l := cl) (a := (rs.getD i default).t - 1) (by omega) hb
    have e' : lvAt (matchL cl) (((rs.getD i default).t - 1 : Nat) : Int) = y := ey
    rw [e']
    exact find_map E (fun j hj => by have := G.lo j hj; have := G.hi j hj; omega) (mo_last E (by omega) (by omega)) _ (Nat.le_refl _)
  · rw [if_neg hb, if_neg hb]

theorem led_congr {m : Nat} {nx nx' : Nat → Int} (h : ∀ i, i < m → nx' i = nx i) : ∀ i, i ≤ m → ledT m nx' i = ledT m nx i
  | 0, _ => rfl
  | i + 1, hi => by
    unfold ledT
    rw [h i (by omega), led_congr h i (by omega)]
theorem ch_congr {m : Nat} {nx nx' : Nat → Int} (h : ∀ i, i < m → nx' i = nx i) (G : NxGood m nx) : ∀ (fu k : Nat), k < m → chT nx' fu k = chT nx fu k
  | 0, _, _ => rfl
  | fu + 1, k, hk => by
    unfold chT
    have e : ((k : Int)).toNat = k := rfl
    rw [if_neg (by omega), if_neg (by omega), e, h k hk]
    congr 1
    rcases G k hk with h1 | ⟨j, h1, _, h2⟩
    · rw [h1, chT_neg, chT_neg]
    · rw [h1]; exact ch_congr h G fu j h2

/-- The places of a run. -/
theorem rangeP_rise (c : List Int) (f : Nat) : ∀ k, (rangeP c f k).Pairwise (· < ·)
  | 0 => List.Pairwise.nil
  | k + 1 => by
    unfold rangeP
    split
    · exact rangeP_rise c f k
    · rw [List.pairwise_append]
      refine ⟨rangeP_rise c f k, by simp, fun x hx y hy => ?_⟩
      obtain ⟨a, rfl, _, h, _⟩ := rangeP_mem.1 hx
      simp at hy
      subst hy
      omega
theorem Emb.runP_ (E : Emb cl lv cl' lv' μ) {r : Rn} (h1 : r.f < r.t) (h2 : r.t ≤ cl.length) : runP cl' (Rmv μ r) = (runP cl r).map (Mv μ) := by
  refine rise_eq (rangeP_rise _ _ _) (E.map_rise (rangeP_rise _ _ _) fun x hx => ?_) fun x => ?_
  · obtain ⟨a, e, _, h, _⟩ := rangeP_mem.1 hx
    exact ⟨a, e, by omega⟩
  · unfold runP
    rw [rangeP_mem, List.mem_map]
    have hm : μ r.f ≤ μ (r.t - 1) := (E.le_iff (by omega) (by omega)).2 (by omega)
    have e1 : (Rmv μ r).f = μ r.f := rfl
    have e2 : (Rmv μ r).t = μ (r.t - 1) + 1 := rfl
    rw [e1, e2]
    constructor
    · rintro ⟨b, rfl, hb1, hb2, hr⟩
      have hb : b < cl'.length := by have := E.lt (r.t - 1) (by omega); omega
      rcases E.rem b hb with ⟨a, ha, rfl⟩ | h
      · have h3 := (E.le_iff (a := r.f) (b := a) (by omega) ha).1 hb1
        have h4 := (E.le_iff (a := a) (b := r.t - 1) ha (by omega)).1 (by omega)
        exact ⟨(a : Int), rangeP_mem.2 ⟨a, rfl, h3, by omega, by rw [← E.cls a ha]; exact hr⟩, rfl⟩
      · rw [h] at hr; cases hr
    · rintro ⟨y, hy, rfl⟩
      obtain ⟨a, rfl, h3, h4, hr⟩ := rangeP_mem.1 hy
      refine ⟨μ a, rfl, (E.le_iff (by omega) (by omega)).2 h3, ?_, by rw [E.cls a (by omega)]; exact hr⟩
      have := (E.le_iff (a := a) (b := r.t - 1) (by omega) (by omega)).2 (by omega)
      omega
theorem Emb.seqP_ (E : Emb cl lv cl' lv' μ) : ∀ {rs : List Rn}, (∀ r ∈ rs, r.f < r.t ∧ r.t ≤ cl.length) → seqP cl' (rs.map (Rmv μ)) = (seqP cl rs).map (Mv μ)
  | [], _ => rfl
  | r :: rs, h => by
    have ih := E.seqP_ (rs := rs) fun x hx => h x (List.mem_cons_of_mem _ hx)
    unfold seqP at ih ⊢
    rw [List.map_cons, List.flatMap_cons, List.flatMap_cons, List.map_append, ih, E.runP_ (h r List.mem_cons_self).1 (h r List.mem_cons_self).2]

/-- How many kept ones stand ahead. -/
theorem Emb.ix (E : Emb cl lv cl' lv' μ) {ks : List Int} (hk : ∀ i, i < ks.length → ∃ a : Nat, ks.getD i 0 = a ∧ a < cl.length) : ∀ k, k ≤ ks.length → ∀ a, a < cl.length → (ixT cl'.length (ks.map (Mv μ)) k).getD (μ a) 0 = (ixT cl.length ks k).getD a 0
  | 0, _, a, ha => by
    have := E.lt a ha
    unfold ixT
    rw [List.getD_eq_getElem?_getD, List.getD_eq_getElem?_getD, List.getElem?_replicate, List.getElem?_replicate, if_pos this, if_pos ha]
  | k + 1, h, a, ha => by
    have ih := E.ix hk k (by omega) a ha
    obtain ⟨b, hb, hbl⟩ := hk k (by omega)
    have hma := E.lt a ha
    unfold ixT
    rw [map_getD0 _ (by omega), hb, Mv_nat]
    have e1 : ((μ b : Nat) : Int).toNat = μ b := rfl
    have e2 : ((b : Nat) : Int).toNat = b := rfl
    rw [e1, e2]
    rw [List.getD_eq_getElem?_getD] at ih ⊢
    rw [List.getD_eq_getElem?_getD] at ih ⊢
    rw [List.getElem?_set, List.getElem?_set, ixT_length, ixT_length]
    by_cases hab : b = a
    · subst hab; rw [if_pos rfl, if_pos rfl, if_pos hma, if_pos ha]
    · rw [if_neg hab, if_neg (fun e => hab (E.inj hbl ha e))]
      exact ih

def Smv (μ : Nat → Nat) (s : Sq) : Sq := { s with pl := s.pl.map (Mv μ) }

theorem Emb.lvK_ (E : Emb cl lv cl' lv' μ) (base k : Int) : lvK (txtOf cl' cl' lv' base) k = lvK (txtOf cl cl lv base) k := by
  unfold lvK
  show (if k < 0 then base else if ((keptL cl').length : Int) ≤ k then base else lvAt lv' ((keptL cl').getD k.toNat 0)) = (if k < 0 then base else if ((keptL cl).length : Int) ≤ k then base else lvAt lv ((keptL cl).getD k.toNat 0))
  rw [E.kept, List.length_map]
  by_cases h1 : k < 0
  · rw [if_pos h1, if_pos h1]
  · rw [if_neg h1, if_neg h1]
    by_cases h2 : ((keptL cl).length : Int) ≤ k
    · rw [if_pos h2, if_pos h2]
    · rw [if_neg h2, if_neg h2, map_getD0 _ (by omega)]
      obtain ⟨a, ha, hl, _⟩ := keptL_in (l := cl) (k := k.toNat) (by omega)
      rw [ha, E.lvAt_ hl]
theorem Emb.ixAt (E : Emb cl lv cl' lv' μ) (base : Int) {a : Nat} (ha : a < cl.length) : lvAt (txtOf cl' cl' lv' base).ix (Mv μ a) = lvAt (txtOf cl cl lv base).ix a := by
  show (ixT cl'.length (keptL cl') (keptL cl').length).getD (μ a) 0 = (ixT cl.length (keptL cl) (keptL cl).length).getD a 0
  rw [E.kept, List.length_map]
  exact E.ix (fun i hi => by obtain ⟨b, h1, h2, _⟩ := keptL_in (l := cl) (k := i) hi; exact ⟨b, h1, h2⟩) _ (Nat.le_refl _) a ha

/-- A sequence of some runs. -/
theorem Emb.seq (E : Emb cl lv cl' lv' μ) (base : Int) {rs : List Rn} (hr : ∀ r ∈ rs, r.f < r.t ∧ r.t ≤ cl.length) (h0 : 0 < rs.length) (h1 : 0 < (seqP cl rs).length) :
    seqOf (txtOf cl' cl' lv' base) (rs.map (Rmv μ)) = Smv μ (seqOf (txtOf cl cl lv base) rs) := by
  have hp : ∀ x ∈ seqP cl rs, ∃ a : Nat, x = a ∧ a < cl.length := fun x hx => by
    obtain ⟨r, hm, a, e, _, h2, _⟩ := seqP_mem.1 hx
    have := hr r hm
    exact ⟨a, e, by omega⟩
  unfold seqOf
  have e1 : seqP (txtOf cl' cl' lv' base).cl (rs.map (Rmv μ)) = (seqP cl rs).map (Mv μ) := E.seqP_ hr
  have e2 : ((rs.map (Rmv μ)).getD 0 default).v = (rs.getD 0 default).v := by rw [map_getD_lt (Rmv μ) h0]; rfl
  rw [e1, e2]
  show sqOf _ _ _ = Smv μ (sqOf (txtOf cl cl lv base) (seqP cl rs) _)
  generalize seqP cl rs = ps at *
  generalize (rs.getD 0 default).v = l0
  unfold sqOf Smv
  have hc : clsP (txtOf cl' cl' lv' base).nw (ps.map (Mv μ)) = clsP (txtOf cl cl lv base).nw ps := by
    unfold clsP
    rw [List.map_map]
    refine List.map_congr_left fun x hx => ?_
    obtain ⟨a, rfl, ha⟩ := hp x hx
    exact congrArg clsC (E.clAt ha)
  obtain ⟨a0, ea, ha⟩ := hp _ (getD_mem0 (l := ps) 0 h1)
  obtain ⟨z0, ez, hz⟩ := hp _ (getD_mem0 (l := ps) (i := ps.length - 1) 0 (by omega))
  have hb : behindL (txtOf cl' cl' lv' base) (Mv μ z0) = behindL (txtOf cl cl lv base) z0 := by
    unfold behindL
    have hm : lvAt (txtOf cl' cl' lv' base).mt (Mv μ z0) = Mo μ cl.length cl'.length (lvAt (matchL cl) z0) := E.match_ hz
    have hcl : lvAt (txtOf cl' cl' lv' base).cl (Mv μ z0) = lvAt cl z0 := E.clAt hz
    rw [hm, hcl, E.ixAt base hz, E.lvK_]
    show (if (begI (lvAt cl z0) && (Mo μ cl.length cl'.length (lvAt (matchL cl) z0) == (cl'.length : Int))) = true then base else _) = (if (begI (lvAt cl z0) && (lvAt (matchL cl) z0 == (cl.length : Int))) = true then base else _)
    rcases hbe : begI (lvAt cl z0) with _ | _
    · simp
    · obtain ⟨y, ey, _, hy⟩ := match_behind (l := cl) (a := z0) hz hbe
      have ey' : lvAt (matchL cl) (z0 : Int) = y := ey
      rw [ey']
      have : (Mo μ cl.length cl'.length (y : Int) == (cl'.length : Int)) = ((y : Int) == (cl.length : Int)) := by
        unfold Mo
        rw [if_neg (by omega)]
        by_cases hy2 : (y : Int) = cl.length
        · rw [if_pos hy2, hy2]; simp
        · rw [if_neg hy2, Mv_nat]
          have := E.lt y (by omega)
          have h3 : ((y : Int) == (cl.length : Int)) = false := beq_eq_false_iff_ne.2 (by omega)
          have h4 : (((μ y : Nat) : Int) == (cl'.length : Int)) = false := beq_eq_false_iff_ne.2 (by omega)
          rw [h3, h4]
      rw [this]
  rw [hc, List.length_map, map_getD0 _ h1, map_getD0 _ (by omega), ea, ez, E.ixAt base ha, E.lvK_, hb]

/-- All sequences. -/
theorem Emb.out (E : Emb cl lv cl' lv' μ) (base : Int) {rs : List Rn} (G : RunsGood cl.length cl rs) {nx nx' : Nat → Int} (NG : NxGood rs.length nx) (hnx : ∀ i, i < rs.length → nx' i = nx i) (ld : List Bool) :
    ∀ i, i ≤ rs.length → outT (txtOf cl' cl' lv' base) (rs.map (Rmv μ)) nx' ld i = (outT (txtOf cl cl lv base) rs nx ld i).map (Smv μ)
  | 0, _ => rfl
  | i + 1, hi => by
    unfold outT
    have ih := E.out base G NG hnx ld i (by omega)
    rw [ih, List.length_map, ch_congr hnx NG _ i (by omega)]
    have hch := (chT_bound G rfl NG (rs.length - i) i (by omega)).2
    have e : (chT nx (rs.length - i) (i : Int)).map (fun k => (rs.map (Rmv μ)).getD k default) = ((chT nx (rs.length - i) (i : Int)).map (fun k => rs.getD k default)).map (Rmv μ) := by
      rw [List.map_map]
      exact List.map_congr_left fun k hk => map_getD_lt (Rmv μ) (hch k hk)
    rw [e]
    have hmem : i ∈ chT nx (rs.length - i) (i : Int) := by rw [chT_step NG (show i < rs.length by omega)]; exact List.mem_cons_self
    have hs := E.seq base (rs := (chT nx (rs.length - i) (i : Int)).map (fun k => rs.getD k default)) (fun r hr => by
        obtain ⟨k, hk, rfl⟩ := List.mem_map.1 hr
        have := hch k hk
        exact ⟨G.lo k this, G.hi k this⟩) (by rw [List.length_map]; exact List.length_pos_of_mem hmem)
      (List.length_pos_of_mem (seqP_mem.2 ⟨rs.getD i default, List.mem_map.2 ⟨i, hmem, rfl⟩, (rs.getD i default).f, rfl, Nat.le_refl _, G.lo i (by omega), G.kept i (by omega)⟩))
    rw [hs]
    split
    · rfl
    · rw [List.map_append]; rfl

theorem Emb.bad (E : Emb cl lv cl' lv' μ) : (keptL cl').any (badK lv' cl') = (keptL cl).any (badK lv cl) := by
  rw [E.kept, List.any_map]
  rw [Bool.eq_iff_iff, List.any_eq_true, List.any_eq_true]
  constructor
  all_goals
    rintro ⟨x, hx, h⟩
    refine ⟨x, hx, ?_⟩
    obtain ⟨a, rfl, ha, _⟩ := keptL_mem.1 hx
    simp only [Function.comp, badK] at h ⊢
    have := E.lvAt_ ha
    have := E.clAt ha
    simp_all

/-- Removed characters put in anywhere: the same error, the same sequences but for their places. -/
theorem Emb.seqs (E : Emb cl lv cl' lv' μ) (base : Int) (hl : lv.length = cl.length) (hl' : lv'.length = cl'.length) :
    seqsL cl' cl' lv' base = ((seqsL cl cl lv base).1.map (Smv μ), (seqsL cl cl lv base).2) := by
  unfold seqsL
  by_cases h1 : base ≠ 0 ∧ base ≠ 1
  · rw [if_pos (.inr (.inr h1)), if_pos (.inr (.inr h1))]; rfl
  · rw [if_neg (c := cl'.length ≠ cl'.length ∨ lv'.length ≠ cl'.length ∨ (base ≠ 0 ∧ base ≠ 1)) (by omega), if_neg (c := cl.length ≠ cl.length ∨ lv.length ≠ cl.length ∨ (base ≠ 0 ∧ base ≠ 1)) (by omega), E.bad]
    split
    · rfl
    · have G := runs_good lv cl
      have NG := nx_good lv cl
      have hnx : ∀ i, i < (runL lv (keptL cl)).length → nxT cl' (matchL cl') ((runL lv (keptL cl)).map (Rmv μ)) i = nxT cl (matchL cl) (runL lv (keptL cl)) i := fun i hi => E.nx G hi
      unfold seqsOf
      rw [E.runs, List.length_map]
      show (outT (txtOf cl' cl' lv' base) _ (nxT cl' (matchL cl') _) (ledT _ (nxT cl' (matchL cl') _) _) _, (0 : Int)) = ((outT (txtOf cl cl lv base) _ (nxT cl (matchL cl) _) (ledT _ (nxT cl (matchL cl) _) _) _).map (Smv μ), (0 : Int))
      rw [led_congr hnx _ (Nat.le_refl _), E.out base G NG hnx _ _ (Nat.le_refl _)]
end
end Go.Proofs.Ythifeccmbojcdaa
