/- Removed characters put in anywhere change nothing but places: the plain law, its first half (kept places, runs, isolates that belong together). -/
import Derived.Test.YthifeccmbojcdaaT6
import Derived.Test.YthifeccmbojcdaaT5
namespace Go.Proofs.Ythifeccmbojcdaa

/-- The places of one list among those of another, into which removed characters were put. -/
structure Emb (cl lv cl' lv' : List Int) (μ : Nat → Nat) : Prop where
  mono : ∀ a b, a < b → b < cl.length → μ a < μ b
  lt : ∀ a, a < cl.length → μ a < cl'.length
  cls : ∀ a, a < cl.length → cl'.getD (μ a) 0 = cl.getD a 0
  lvs : ∀ a, a < cl.length → lv'.getD (μ a) 0 = lv.getD a 0
  rem : ∀ b, b < cl'.length → (∃ a, a < cl.length ∧ μ a = b) ∨ remC (cl'.getD b 0) = true

def Mv (μ : Nat → Nat) (x : Int) : Int := ((μ x.toNat : Nat) : Int)
theorem Mv_nat (μ : Nat → Nat) (a : Nat) : Mv μ (a : Int) = ((μ a : Nat) : Int) := rfl

/-- Two rising lists of the same members are one. -/
theorem rise_eq : ∀ {l m : List Int}, l.Pairwise (· < ·) → m.Pairwise (· < ·) → (∀ x, x ∈ l ↔ x ∈ m) → l = m
  | [], [], _, _, _ => rfl
  | [], b :: m, _, _, h => by have := (h b).2 (List.mem_cons_self); cases this
  | a :: l, [], _, _, h => by have := (h a).1 (List.mem_cons_self); cases this
  | a :: l, b :: m, h1, h2, h => by
    rw [List.pairwise_cons] at h1 h2
    have e : a = b := by
      rcases List.mem_cons.1 ((h a).1 List.mem_cons_self) with e | e
      · exact e
      · rcases List.mem_cons.1 ((h b).2 List.mem_cons_self) with e2 | e2
        · exact e2.symm
        · have := h2.1 a e; have := h1.1 b e2; omega
    subst e
    congr 1
    refine rise_eq h1.2 h2.2 fun x => ?_
    constructor
    · intro hx
      rcases List.mem_cons.1 ((h x).1 (List.mem_cons_of_mem _ hx)) with e | e
      · have := h1.1 x hx; omega
      · exact e
    · intro hx
      rcases List.mem_cons.1 ((h x).2 (List.mem_cons_of_mem _ hx)) with e | e
      · have := h2.1 x hx; omega
      · exact e

section
variable {cl lv cl' lv' : List Int} {μ : Nat → Nat}
theorem Emb.inj (E : Emb cl lv cl' lv' μ) {a b : Nat} (ha : a < cl.length) (hb : b < cl.length) (h : μ a = μ b) : a = b := by
  rcases Nat.lt_trichotomy a b with h1 | h1 | h1
  · have := E.mono a b h1 hb; omega
  · exact h1
  · have := E.mono b a h1 ha; omega
theorem Emb.le_iff (E : Emb cl lv cl' lv' μ) {a b : Nat} (ha : a < cl.length) (hb : b < cl.length) : μ a ≤ μ b ↔ a ≤ b := by
  constructor
  · intro h
    rcases Nat.lt_or_ge b a with h1 | h1
    · have := E.mono b a h1 ha; omega
    · exact h1
  · intro h
    rcases Nat.lt_or_eq_of_le h with h1 | h1
    · have := E.mono a b h1 hb; omega
    · subst h1; exact Nat.le_refl _
theorem Emb.clAt (E : Emb cl lv cl' lv' μ) {a : Nat} (ha : a < cl.length) : lvAt cl' (Mv μ a) = lvAt cl a := E.cls a ha
theorem Emb.lvAt_ (E : Emb cl lv cl' lv' μ) {a : Nat} (ha : a < cl.length) : lvAt lv' (Mv μ a) = lvAt lv a := E.lvs a ha
theorem Emb.map_rise (E : Emb cl lv cl' lv' μ) {l : List Int} (h : l.Pairwise (· < ·)) (hl : ∀ x ∈ l, ∃ a : Nat, x = a ∧ a < cl.length) : (l.map (Mv μ)).Pairwise (· < ·) := by
  rw [List.pairwise_map]
  refine h.imp_of_mem fun {x y} hx hy hxy => ?_
  obtain ⟨a, rfl, ha⟩ := hl x hx
  obtain ⟨b, rfl, hb⟩ := hl y hy
  have := E.mono a b (by omega) hb
  rw [Mv_nat, Mv_nat]; omega
/-- The kept places. -/
theorem Emb.kept (E : Emb cl lv cl' lv' μ) : keptL cl' = (keptL cl).map (Mv μ) := by
  refine rise_eq (keptL_pw cl') (E.map_rise (keptL_pw cl) fun x hx => ?_) fun x => ?_
  · obtain ⟨a, e, h, _⟩ := keptL_mem.1 hx; exact ⟨a, e, h⟩
  · rw [keptL_mem, List.mem_map]
    constructor
    · rintro ⟨b, rfl, hb, hr⟩
      rcases E.rem b hb with ⟨a, ha, rfl⟩ | h
      · exact ⟨(a : Int), keptL_mem.2 ⟨a, rfl, ha, by rw [← E.cls a ha]; exact hr⟩, rfl⟩
      · rw [h] at hr; cases hr
    · rintro ⟨y, hy, rfl⟩
      obtain ⟨a, rfl, ha, hr⟩ := keptL_mem.1 hy
      exact ⟨μ a, rfl, E.lt a ha, by rw [E.cls a ha]; exact hr⟩
theorem span_map {f : Int → Int} {v : Int} : ∀ {t : List Int}, (∀ a ∈ t, lvAt lv' (f a) = lvAt lv a) → spanN lv' v (t.map f) = spanN lv v t
  | [], _ => rfl
  | a :: t, h => by
    simp only [List.map_cons, spanN]
    rw [h a List.mem_cons_self, span_map fun b hb => h b (List.mem_cons_of_mem _ hb)]
theorem grp_map {f : Int → Int} : ∀ (n : Nat) (t : List Int), t.length ≤ n → (∀ a ∈ t, lvAt lv' (f a) = lvAt lv a) → grp lv' (t.map f) = (grp lv t).map (List.map f)
  | _, [], _, _ => by simp [grp]
  | 0, a :: t, hn, _ => by simp at hn
  | n + 1, a :: t, hn, h => by
    rw [List.map_cons, grp, grp]
    have e := h a List.mem_cons_self
    have ht : ∀ b ∈ t, lvAt lv' (f b) = lvAt lv b := fun b hb => h b (List.mem_cons_of_mem _ hb)
    rw [e, span_map ht, List.map_cons, List.map_cons, List.map_take, ← List.map_drop]
    congr 1
    exact grp_map n _ (by simp at hn ⊢; omega) fun b hb => ht b (List.mem_of_mem_drop hb)
def Rmv (μ : Nat → Nat) (r : Rn) : Rn := ⟨μ r.f, μ (r.t - 1) + 1, r.v⟩
theorem grp_sub : ∀ g ∈ grp lv (keptL cl), ∀ y ∈ g, y ∈ keptL cl := by
  intro g hg y hy
  have := grp_flat lv (keptL cl)
  rw [← this]
  exact List.mem_flatten.2 ⟨g, hg, hy⟩
/-- The level runs. -/
theorem Emb.runs (E : Emb cl lv cl' lv' μ) : runL lv' (keptL cl') = (runL lv (keptL cl)).map (Rmv μ) := by
  unfold runL
  have hk : ∀ a ∈ keptL cl, lvAt lv' (Mv μ a) = lvAt lv a := fun x hx => by
    obtain ⟨a, rfl, ha, _⟩ := keptL_mem.1 hx
    exact E.lvAt_ ha
  rw [E.kept, grp_map _ _ (Nat.le_refl _) hk, List.map_map, List.map_map]
  refine List.map_congr_left fun g hg => ?_
  have hne := grp_ne lv _ g hg
  obtain ⟨b, t, rfl⟩ := List.exists_cons_of_ne_nil hne
  have hb : b ∈ keptL cl := grp_sub _ hg b List.mem_cons_self
  simp only [Function.comp, toRn, Rmv, List.length_map]
  have h0 : ((b :: t).map (Mv μ)).getD 0 0 = Mv μ b := rfl
  have hl : ((b :: t).map (Mv μ)).getD ((b :: t).length - 1) 0 = Mv μ ((b :: t).getD ((b :: t).length - 1) 0) := by
    rw [List.getD_eq_getElem?_getD, List.getElem?_map, List.getD_eq_getElem?_getD, List.getElem?_eq_getElem (by simp)]
    rfl
  rw [h0, hl]
  have e0 : (b :: t).getD 0 0 = b := rfl
  rw [e0, hk b hb]
  rfl

/-! Isolates that belong together. -/
def Mo (μ : Nat → Nat) (n n' : Nat) (o : Int) : Int := if o < 0 then -1 else if o = n then n' else Mv μ o
structure MR (cl cl' : List Int) (μ : Nat → Nat) (b k : Nat) : Prop where
  k_le : k ≤ cl.length
  lo : ∀ a, a < k → μ a < b
  hi : ∀ a, k ≤ a → a < cl.length → b ≤ μ a
  pile : (mRun cl'.length (cl'.take b)).2 = (mRun cl.length (cl.take k)).2.map μ
  out : ∀ a, a < k → (mRun cl'.length (cl'.take b)).1[μ a]? = ((mRun cl.length (cl.take k)).1[a]?).map (Mo μ cl.length cl'.length)

theorem mrun_len (n : Nat) (l : List Int) (h : l.length ≤ n) : (mRun n l).1.length = l.length := (mInv_run n l h).len
theorem mrun_pile (n : Nat) (l : List Int) (h : l.length ≤ n) : ∀ p ∈ (mRun n l).2, p < l.length := fun p hp => ((mInv_run n l h).pile_lt p hp).1
theorem take_succ_getD (l : List Int) {k : Nat} (h : k < l.length) : l.take (k + 1) = l.take k ++ [l.getD k 0] := by
  rw [List.take_succ_eq_append_getElem h, List.getD_eq_getElem?_getD, List.getElem?_eq_getElem h]; rfl
theorem rem_plain {c : Int} (h : remC c = true) : begins c = false ∧ c ≠ 23 ∧ c ≠ 11 := by
  simp only [remC, Bool.or_eq_true, beq_iff_eq] at h
  rcases h with ((((h | h) | h) | h) | h) | h <;> subst h <;> decide
theorem mStep_rem {n : Nat} {st : List Int × List Nat} {c : Int} (h : remC c = true) : mStep n st c = (st.1 ++ [-1], st.2) := by
  obtain ⟨h1, h2, h3⟩ := rem_plain h
  unfold mStep
  rw [h1, if_neg (by simp), if_neg h2, if_neg h3]

theorem Emb.mrun (E : Emb cl lv cl' lv' μ) : ∀ b, b ≤ cl'.length → ∃ k, MR cl cl' μ b k
  | 0, _ => ⟨0, Nat.zero_le _, fun a h => by omega, fun a _ _ => Nat.zero_le _, rfl, fun a h => by omega⟩
  | b + 1, hb => by
    obtain ⟨k, H⟩ := E.mrun b (by omega)
    have hlen' : (mRun cl'.length (cl'.take b)).1.length = b := by rw [mrun_len _ _ (by simp; omega)]; simp; omega
    have hlen : (mRun cl.length (cl.take k)).1.length = k := by rw [mrun_len _ _ (by simp; omega)]; have := H.k_le; simp; omega
    have ht := take_succ_getD cl' (show b < cl'.length by omega)
    by_cases hk : k < cl.length ∧ μ k = b
    · obtain ⟨hk, hkb⟩ := hk
      have hc : cl'.getD b 0 = cl.getD k 0 := by rw [← hkb]; exact E.cls k hk
      have hs := take_succ_getD cl hk
      have hpl : ∀ p ∈ (mRun cl.length (cl.take k)).2, p < k := fun p hp => by have := mrun_pile _ _ (by simp; omega) p hp; simp at this; omega
      refine ⟨k + 1, ?_⟩
      have lo : ∀ a, a < k + 1 → μ a < b + 1 := fun a ha => by
        rcases Nat.lt_or_ge a k with h | h
        · have := H.lo a h; omega
        · have : a = k := by omega
          subst this; omega
      have hi : ∀ a, k + 1 ≤ a → a < cl.length → b + 1 ≤ μ a := fun a h1 h2 => by have := E.mono k a (by omega) h2; omega
      have pil := H.pile
      have out := H.out
      rw [show MR cl cl' μ (b + 1) (k + 1) ↔ _ from ⟨fun h => h, fun h => h⟩]
      have key : (mRun cl'.length (cl'.take (b + 1))).2 = (mRun cl.length (cl.take (k + 1))).2.map μ ∧ ∀ a, a < k + 1 → (mRun cl'.length (cl'.take (b + 1))).1[μ a]? = ((mRun cl.length (cl.take (k + 1))).1[a]?).map (Mo μ cl.length cl'.length) := by
        rw [ht, hs, mRun_snoc, mRun_snoc, hc]
        generalize cl.getD k 0 = c
        obtain ⟨O, P, hst⟩ : ∃ O P, mRun cl.length (cl.take k) = (O, P) := ⟨_, _, rfl⟩
        obtain ⟨O', P', hst'⟩ : ∃ O' P', mRun cl'.length (cl'.take b) = (O', P') := ⟨_, _, rfl⟩
        rw [hst] at pil out hlen hpl ⊢
        rw [hst'] at pil out hlen' ⊢
        simp only at pil out hlen hlen' hpl
        subst pil
        -- what is told of the new place alone
        have fresh : ∀ (x x' : Int), Mo μ cl.length cl'.length x = x' → ∀ a, a < k + 1 → (O' ++ [x'])[μ a]? = ((O ++ [x])[a]?).map (Mo μ cl.length cl'.length) := by
          intro x x' hx a ha
          rcases Nat.lt_or_ge a k with h | h
          · have := H.lo a h
            rw [List.getElem?_append_left (by omega), List.getElem?_append_left (by omega)]
            exact out a h
          · have : a = k := by omega
            subst this
            rw [hkb, List.getElem?_append_right (by omega), List.getElem?_append_right (by omega), hlen, hlen']
            simp [hx]
        have m1 : Mo μ cl.length cl'.length (-1) = -1 := by simp [Mo]
        unfold mStep
        by_cases h1 : begins c = true
        · rw [if_pos h1, if_pos h1]
          refine ⟨by simp [hlen, hlen', hkb], fresh _ _ ?_⟩
          unfold Mo
          rw [if_neg (by omega), if_pos rfl]
        · rw [if_neg h1, if_neg h1]
          by_cases h2 : c = 23
          · rw [if_pos h2, if_pos h2]
            cases P with
            | nil => exact ⟨rfl, fresh _ _ m1⟩
            | cons p rest =>
              simp only [List.map_cons]
              have hp := hpl p List.mem_cons_self
              refine ⟨trivial, fun a ha => ?_⟩
              have hmp := H.lo p hp
              have mk : Mo μ cl.length cl'.length (k : Int) = (b : Int) := by
                unfold Mo
                rw [if_neg (by omega), if_neg (by omega), Mv_nat, hkb]
              have mp : Mo μ cl.length cl'.length (p : Int) = (μ p : Nat) := by
                unfold Mo
                rw [if_neg (by omega), if_neg (by omega), Mv_nat]
              rcases Nat.lt_or_ge a k with h | h
              · have hma := H.lo a h
                rw [List.getElem?_append_left (by rw [List.length_set]; omega), List.getElem?_append_left (by rw [List.length_set]; omega), List.getElem?_set, List.getElem?_set]
                by_cases hpa : p = a
                · subst hpa
                  rw [if_pos rfl, if_pos rfl, if_pos (by omega), if_pos (by omega), hlen, hlen']
                  simp [mk]
                · rw [if_neg hpa, if_neg (fun e => hpa (E.inj (by omega) (by omega) e))]
                  exact out a h
              · have : a = k := by omega
                subst this
                rw [hkb, List.getElem?_append_right (by rw [List.length_set]; omega), List.getElem?_append_right (by rw [List.length_set]; omega), List.length_set, List.length_set, hlen, hlen']
                simp [mp]
          · rw [if_neg h2, if_neg h2]
            by_cases h3 : c = 11
            · rw [if_pos h3, if_pos h3]; exact ⟨rfl, fresh _ _ m1⟩
            · rw [if_neg h3, if_neg h3]; exact ⟨rfl, fresh _ _ m1⟩
      exact ⟨by omega, lo, hi, key.1, key.2⟩
    · -- a removed character
      have hr : remC (cl'.getD b 0) = true := by
        rcases E.rem b (by omega) with ⟨a, ha, e⟩ | h
        · exfalso
          rcases Nat.lt_trichotomy a k with h | h | h
          · have := H.lo a h; omega
          · subst h; exact hk ⟨ha, e⟩
          · have h1 := E.mono k a h ha
            have h2 := H.hi k (Nat.le_refl _) (by omega)
            omega
        · exact h
      refine ⟨k, H.k_le, fun a h => by have := H.lo a h; omega, fun a h1 h2 => ?_, ?_, fun a ha => ?_⟩
      · have h3 := H.hi a h1 h2
        rcases Nat.lt_or_eq_of_le h3 with h4 | h4
        · exact h4
        · exfalso
          rcases Nat.lt_or_eq_of_le h1 with h5 | h5
          · have h6 := E.mono k a h5 h2
            have h7 := H.hi k (Nat.le_refl _) (by omega)
            omega
          · subst h5; exact hk ⟨h2, h4.symm⟩
      · rw [ht, mRun_snoc, mStep_rem hr]; exact H.pile
      · rw [ht, mRun_snoc, mStep_rem hr]
        have := H.lo a ha
        simp only
        rw [List.getElem?_append_left (by omega)]
        exact H.out a ha

theorem Emb.match_ (E : Emb cl lv cl' lv' μ) {a : Nat} (ha : a < cl.length) : lvAt (matchL cl') (Mv μ a) = Mo μ cl.length cl'.length (lvAt (matchL cl) a) := by
  obtain ⟨k, H⟩ := E.mrun cl'.length (Nat.le_refl _)
  have hk : k = cl.length := by
    rcases Nat.lt_or_eq_of_le H.k_le with h | h
    · have h1 := H.hi k (Nat.le_refl _) h
      have h2 := E.lt k h
      omega
    · exact h
  subst hk
  have ho := H.out a ha
  rw [List.take_length, List.take_length] at ho
  have hl : (mRun cl.length cl).1.length = cl.length := mrun_len _ _ (Nat.le_refl _)
  unfold lvAt matchL
  rw [Mv_nat]
  have e1 : ((μ a : Nat) : Int).toNat = μ a := rfl
  have e2 : ((a : Nat) : Int).toNat = a := rfl
  rw [e1, e2, List.getD_eq_getElem?_getD, List.getD_eq_getElem?_getD, ho, List.getElem?_eq_getElem (by omega)]
  rfl
end
end Go.Proofs.Ythifeccmbojcdaa
