/- SpansWithin, the plain law: a sequence outside an isolate is the same, whatever stands within. -/
import Derived.Test.YtpdackbcnbhppaaX8
import Derived.Test.YtpdackbcnbhppaaX9
namespace Go.Proofs.Ytpdackbcnbhppaa
open Go.RowKit

/-- Neither B nor PDI nor an isolate's beginning. -/
def innC (c : Int) : Bool := c != 11 && c != 23 && !begI c
theorem begI_kept {c : Int} (h : begI c = true) : remC c = false := by
  simp only [begI, Bool.or_eq_true, beq_iff_eq] at h
  rcases h with (rfl | rfl) | rfl <;> rfl

theorem match_inn {n : Nat} : ∀ (l m : List Int) (st : List Int × List Nat), l.length = m.length → (∀ k, l.getD k 0 = m.getD k 0 ∨ (innC (l.getD k 0) = true ∧ innC (m.getD k 0) = true)) → l.foldl (mStep n) st = m.foldl (mStep n) st
  | [], [], _, _, _ => rfl
  | [], _ :: _, _, h, _ => by simp at h
  | _ :: _, [], _, h, _ => by simp at h
  | c :: l, c' :: m, st, h, hk => by
    have h0 := hk 0
    simp only [List.getD_cons_zero] at h0
    have e : mStep n st c = mStep n st c' := by
      rcases h0 with h0 | ⟨h1, h2⟩
      · rw [h0]
      · simp only [innC, Bool.and_eq_true, bne_iff_ne, Bool.not_eq_true'] at h1 h2
        unfold mStep
        rw [← begB, ← begB, h1.2, h2.2]
        simp only [Bool.false_eq_true, if_false]
        rw [if_neg h1.1.2, if_neg h1.1.1, if_neg h2.1.2, if_neg h2.1.1]
    rw [List.foldl_cons, List.foldl_cons, e]
    exact match_inn l m _ (by simpa using h) fun k => by simpa using hk (k + 1)

structure Agr (a e : Nat) (l m lv lv' nw nw' : List Int) : Prop where
  ll : l.length = m.length
  ae : a < e
  el : e < l.length
  cls : ∀ x, x ≤ a ∨ e ≤ x → l.getD x 0 = m.getD x 0
  lvE : ∀ x, x ≤ a ∨ e ≤ x → lv.getD x 0 = lv'.getD x 0
  nwE : ∀ x, x ≤ a ∨ e ≤ x → nw.getD x 0 = nw'.getD x 0
  mt : matchL l = matchL m
  hb : begI (l.getD a 0) = true
  hm : (matchL l).getD a 0 = (e : Int)
  H : NoOv lv l
  H' : NoOv lv' m
section
variable {a e : Nat} {l m lv lv' nw nw' : List Int}
theorem Agr.symm (h : Agr a e l m lv lv' nw nw') : Agr a e m l lv' lv nw' nw :=
  ⟨h.ll.symm, h.ae, by rw [← h.ll]; exact h.el, fun x hx => (h.cls x hx).symm, fun x hx => (h.lvE x hx).symm, fun x hx => (h.nwE x hx).symm, h.mt.symm, by rw [← h.cls a (.inl (Nat.le_refl _))]; exact h.hb, by rw [← h.mt]; exact h.hm, h.H', h.H⟩
theorem Agr.e23 (h : Agr a e l m lv lv' nw nw') : l.getD e 0 = 23 := by
  obtain ⟨j, h1, _, _, h4⟩ := begin_match (l := l) (i := a) (by have := h.ae; have := h.el; omega) (by rw [← begB]; exact h.hb)
  rw [h.hm] at h1
  have e1 : j = e := by omega
  subst e1
  exact h4 h.el
theorem Agr.sc (h : Agr a e l m lv lv' nw nw') : Sc lv l a e := by
  have h1 := h.ae
  have h2 := h.el
  exact ⟨h1, h2, begI_kept h.hb, by rw [h.e23]; rfl, (h.H.mt a e (by omega) h.hb h.hm h2).symm, .inr ⟨h.hb, h.hm⟩⟩
/-- What stands next, outside. -/
theorem Agr.next (h : Agr a e l m lv lv' nw nw') {x y : Nat} (hx : x ≤ a ∨ e ≤ x) (hs : Sc lv l x y) : Sc lv' m x y ∧ (y ≤ a ∨ e ≤ y) := by
  have h1 := h.ae
  have h2 := h.el
  have hlt := hs.lt
  have hlen := hs.len
  have mk : (y ≤ a ∨ e ≤ y) → ((∀ z, x < z → z < y → remC (m.getD z 0) = true) ∨ (begI (m.getD x 0) = true ∧ (matchL m).getD x 0 = (y : Int))) → Sc lv' m x y ∧ (y ≤ a ∨ e ≤ y) :=
    fun hy hw => ⟨⟨hlt, by rw [← h.ll]; exact hlen, by rw [← h.cls x hx]; exact hs.rx, by rw [← h.cls y hy]; exact hs.ry, by rw [← h.lvE x hx, ← h.lvE y hy]; exact hs.lv, hw⟩, hy⟩
  have hmx : (matchL l).getD x 0 = (y : Int) → begI (l.getD x 0) = true → (y ≤ a ∨ e ≤ y) → Sc lv' m x y ∧ (y ≤ a ∨ e ≤ y) :=
    fun hm hb hy => mk hy (.inr ⟨by rw [← h.cls x hx]; exact hb, by rw [← h.mt]; exact hm⟩)
  rcases Nat.lt_trichotomy x a with hxa | hxa | hxa
  · rcases hs.how with hn | ⟨hb, hm⟩
    · have hya : y ≤ a := by
        rcases Nat.lt_or_ge a y with h3 | h3
        · have := hn a hxa h3
          rw [begI_kept h.hb] at this; cases this
        · exact h3
      exact mk (.inl hya) (.inl fun z h3 h4 => by rw [← h.cls z (.inl (by omega))]; exact hn z h3 h4)
    · refine hmx hm hb ?_
      rcases Nat.lt_or_ge a y with h3 | h3
      · rcases Nat.lt_or_ge y e with h4 | h4
        · exfalso
          have hback := match_back (by omega) hm hlen
          have hin := (matchL_inv l).within a e h1 (by have := get_getD (l := matchL l) (i := a) (by rw [matchL_length]; omega); rw [h.hm] at this; exact this) h2 y h3 h4
          rcases hin with h5 | ⟨q, h5, h6, _⟩
          · rw [getD_of h5] at hback; omega
          · rw [getD_of h5] at hback; omega
        · exact .inr h4
      · exact .inl h3
  · subst hxa
    have := hs.fn h.H h.sc
    subst this
    exact ⟨h.symm.sc, .inr (Nat.le_refl _)⟩
  · have hxe : e ≤ x := by omega
    rcases hs.how with hn | ⟨hb, hm⟩
    · exact mk (.inr (by omega)) (.inl fun z h3 h4 => by rw [← h.cls z (.inr (by omega))]; exact hn z h3 h4)
    · exact hmx hm hb (.inr (by omega))

theorem Agr.sub (h : Agr a e l m lv lv' nw nw') {i i' : Nat} (hi : i ∈ leads (rnL lv l).length (nxQ lv l)) (hi' : i' ∈ leads (rnL lv' m).length (nxQ lv' m)) (ha : (a : Int) ∈ plL lv l i) (ha' : (a : Int) ∈ plL lv' m i') :
    ∀ p ∈ plL lv l i, p ∈ plL lv' m i' ∧ ∃ x : Nat, p = x ∧ (x ≤ a ∨ e ≤ x) := by
  have him := (leads_mem.1 hi).1
  have him' := (leads_mem.1 hi').1
  have hpw := plL_pw (lv := lv) (cl := l) him
  have hlk := fun k hk => plL_link (lv := lv) (cl := l) h.H him (k := k) hk
  have hnext : ∀ x y : Nat, (x : Int) ∈ plL lv' m i' → Sc lv' m x y → (y : Int) ∈ plL lv' m i' := fun x y hx hs => plL_next h.H' him' hx hs
  have hprev : ∀ x y : Nat, (y : Int) ∈ plL lv' m i' → Sc lv' m x y → (x : Int) ∈ plL lv' m i' := fun x y hy hs => plL_prev h.H' hi' hy hs
  obtain ⟨k0, hk0, e0⟩ := List.mem_iff_getElem.1 ha
  have eg : ∀ k (hk : k < (plL lv l i).length), (plL lv l i).getD k 0 = (plL lv l i)[k] := fun k hk => by rw [List.getD_eq_getElem?_getD, List.getElem?_eq_getElem hk]; rfl
  generalize plL lv l i = P at *
  generalize plL lv' m i' = Q at *
  have up : ∀ d, k0 + d < P.length → P.getD (k0 + d) 0 ∈ Q ∧ ∃ x : Nat, P.getD (k0 + d) 0 = x ∧ (x ≤ a ∨ e ≤ x) := by
    intro d
    induction d with
    | zero =>
      intro _
      rw [Nat.add_zero, eg k0 hk0, e0]
      exact ⟨ha', a, rfl, .inl (Nat.le_refl _)⟩
    | succ d ih =>
      intro hd
      obtain ⟨h1, x0, h2, h3⟩ := ih (by omega)
      obtain ⟨x, y, ex, ey, hs⟩ := hlk (k0 + d) (by omega)
      have exx : x0 = x := by omega
      subst exx
      obtain ⟨hs', hy⟩ := h.next h3 hs
      rw [show k0 + (d + 1) = k0 + d + 1 from rfl, ey]
      refine ⟨hnext x0 y (by rw [← ex]; exact h1) hs', y, rfl, hy⟩
  have down : ∀ d, d ≤ k0 → P.getD (k0 - d) 0 ∈ Q ∧ ∃ x : Nat, P.getD (k0 - d) 0 = x ∧ (x ≤ a ∨ e ≤ x) := by
    intro d
    induction d with
    | zero =>
      intro _
      rw [Nat.sub_zero, eg k0 hk0, e0]
      exact ⟨ha', a, rfl, .inl (Nat.le_refl _)⟩
    | succ d ih =>
      intro hd
      obtain ⟨h1, _⟩ := ih (by omega)
      obtain ⟨x, y, ex, ey, hs⟩ := hlk (k0 - (d + 1)) (by omega)
      rw [show k0 - (d + 1) + 1 = k0 - d by omega] at ey
      have hle := pw_le hpw (i := k0 - (d + 1)) (j := k0) (by omega) hk0
      rw [ex, eg k0 hk0, e0] at hle
      have hxa : x ≤ a := by omega
      obtain ⟨hs', _⟩ := h.next (.inl hxa) hs
      rw [ex]
      exact ⟨hprev x y (by rw [← ey]; exact h1) hs', x, rfl, .inl hxa⟩
  intro p hp
  obtain ⟨k, hk, ek⟩ := List.mem_iff_getElem.1 hp
  rw [← ek, ← eg k hk]
  rcases Nat.lt_or_ge k k0 with h5 | h5
  · have := down (k0 - k) (by omega)
    rwa [show k0 - (k0 - k) = k by omega] at this
  · have := up (k - k0) (by omega)
    rwa [show k0 + (k - k0) = k by omega] at this
theorem Agr.places (h : Agr a e l m lv lv' nw nw') {i i' : Nat} (hi : i ∈ leads (rnL lv l).length (nxQ lv l)) (hi' : i' ∈ leads (rnL lv' m).length (nxQ lv' m)) (ha : (a : Int) ∈ plL lv l i) (ha' : (a : Int) ∈ plL lv' m i') :
    plL lv l i = plL lv' m i' :=
  sorted_ext (plL_pw (leads_mem.1 hi).1) (plL_pw (leads_mem.1 hi').1) fun x => ⟨fun hx => (h.sub hi hi' ha ha' x hx).1, fun hx => (h.symm.sub hi' hi ha' ha x hx).1⟩

/-- Kept places, of a list of places. -/
def kpt (cl : List Int) (r : List Nat) : List Int := (r.filter fun i => !remC (cl.getD i 0)).map fun (i : Nat) => (i : Int)
theorem keptT_kpt (cl : List Int) : ∀ k, keptT cl k = kpt cl (List.range k)
  | 0 => rfl
  | k + 1 => by
    unfold keptT
    rw [keptT_kpt cl k]
    unfold kpt
    rw [List.range_succ, List.filter_append, List.map_append]
    rcases hr : remC (cl.getD k 0) with _ | _
    · simp only [List.filter_cons, hr, List.filter_nil, Bool.not_false, if_true, Bool.false_eq_true, if_false, List.map_cons, List.map_nil]
    · simp only [List.filter_cons, hr, List.filter_nil, Bool.not_true, if_true, Bool.false_eq_true, if_false, List.map_nil, List.append_nil]
theorem kpt_append (cl : List Int) (r r' : List Nat) : kpt cl (r ++ r') = kpt cl r ++ kpt cl r' := by unfold kpt; rw [List.filter_append, List.map_append]
theorem kpt_congr {cl cl' : List Int} : ∀ {r : List Nat}, (∀ i ∈ r, cl.getD i 0 = cl'.getD i 0) → kpt cl r = kpt cl' r
  | [], _ => rfl
  | i :: r, h => by
    have ih := kpt_congr (cl := cl) (cl' := cl') (r := r) fun j hj => h j (List.mem_cons_of_mem _ hj)
    unfold kpt at ih ⊢
    rw [List.filter_cons, List.filter_cons, h i List.mem_cons_self]
    split
    · rw [List.map_cons, List.map_cons, ih]
    · exact ih
theorem kpt_mem {cl : List Int} {r : List Nat} {x : Int} : x ∈ kpt cl r ↔ ∃ i ∈ r, remC (cl.getD i 0) = false ∧ x = (i : Int) := by
  unfold kpt
  rw [List.mem_map]
  constructor
  · rintro ⟨i, hi, rfl⟩
    obtain ⟨h1, h2⟩ := List.mem_filter.1 hi
    exact ⟨i, h1, by simpa only [Bool.not_eq_true'] using h2, rfl⟩
  · rintro ⟨i, h1, h2, rfl⟩
    exact ⟨i, List.mem_filter.2 ⟨h1, by simp only [h2, Bool.not_false]⟩, rfl⟩
def fromL (b n : Nat) : List Nat := (List.range (n - b)).map (b + ·)
theorem kept_cut (cl : List Int) {b : Nat} (h : b ≤ cl.length) : keptL cl = kpt cl (List.range b) ++ kpt cl (fromL b cl.length) := by
  unfold keptL fromL
  rw [keptT_kpt, ← kpt_append, ← List.range_add]
  congr 2; omega
theorem fromL_mem {b n i : Nat} (h : i ∈ fromL b n) : b ≤ i ∧ i < n := by
  unfold fromL at h
  obtain ⟨j, hj, rfl⟩ := List.mem_map.1 h
  have := List.mem_range.1 hj
  omega

theorem ixT_get {n : Nat} {ks : List Int} (hpw : ks.Pairwise (· < ·)) (hks : ∀ k, k < ks.length → ∃ q : Nat, ks.getD k 0 = q ∧ q < n) : ∀ K, K ≤ ks.length → ∀ k, k < K → (ixT n ks K).getD (ks.getD k 0).toNat 0 = (k : Int)
  | 0, _, k, hk => by omega
  | K + 1, hK, k, hk => by
    have hl := ixT_length n ks K
    unfold ixT
    by_cases e : k = K
    · subst e
      obtain ⟨q, eq, hq⟩ := hks k (by omega)
      rw [eq, Int.toNat_natCast, List.getD_eq_getElem?_getD, List.getElem?_set_self (by omega)]; rfl
    · have ih := ixT_get hpw hks K (by omega) k (by omega)
      obtain ⟨q, eq, hq⟩ := hks k (by omega)
      obtain ⟨q', eq', hq'⟩ := hks K (by omega)
      have hlt := List.pairwise_iff_getElem.1 hpw k K (by omega) (by omega) (by omega)
      have e1 : ks[k] = (q : Int) := by rw [← eq, List.getD_eq_getElem?_getD, List.getElem?_eq_getElem (by omega)]; rfl
      have e2 : ks[K] = (q' : Int) := by rw [← eq', List.getD_eq_getElem?_getD, List.getElem?_eq_getElem (by omega)]; rfl
      rw [e1, e2] at hlt
      rw [eq] at ih ⊢
      rw [eq', Int.toNat_natCast, Int.toNat_natCast, List.getD_eq_getElem?_getD, List.getElem?_set_ne (by omega), ← List.getD_eq_getElem?_getD]
      rw [Int.toNat_natCast] at ih
      exact ih
theorem ix_at (cl nw lv : List Int) (base : Int) {k : Nat} (hk : k < (keptL cl).length) : lvAt (txtOf cl nw lv base).ix ((keptL cl).getD k 0) = (k : Int) :=
  ixT_get (n := cl.length) (keptL_pw cl) (fun j hj => by obtain ⟨q, h1, h2, _⟩ := keptL_mem.1 (getD_mem0 (0 : Int) hj); exact ⟨q, h1, h2⟩) _ (Nat.le_refl _) k hk

theorem getD_left {A B : List Int} {k : Nat} (h : k < A.length) : (A ++ B).getD k 0 = A.getD k 0 := by
  rw [List.getD_eq_getElem?_getD, List.getElem?_append_left h, ← List.getD_eq_getElem?_getD]
theorem getD_right {A B : List Int} (k : Nat) : (A ++ B).getD (A.length + k) 0 = B.getD k 0 := by
  rw [List.getD_eq_getElem?_getD, List.getElem?_append_right (by omega), ← List.getD_eq_getElem?_getD]
  congr 1; omega

theorem lvK_in (cl nw lv : List Int) (base : Int) {z : Int} {k : Nat} (hz : z = (k : Int)) (hk : k < (keptL cl).length) : lvK (txtOf cl nw lv base) z = lvAt lv ((keptL cl).getD k 0) := by
  subst hz
  unfold lvK
  have s1 : ¬ (((txtOf cl nw lv base).ks.length : Int) ≤ (k : Int)) := by show ¬ (((keptL cl).length : Int) ≤ _); omega
  rw [if_neg (by omega), if_neg s1, Int.toNat_natCast]
  rfl
theorem lvK_neg (cl nw lv : List Int) (base : Int) {z : Int} (hz : z < 0) : lvK (txtOf cl nw lv base) z = base := by
  unfold lvK
  rw [if_pos hz]; rfl
theorem lvK_out (cl nw lv : List Int) (base : Int) {z : Int} (hz : ((keptL cl).length : Int) ≤ z) : lvK (txtOf cl nw lv base) z = base := by
  unfold lvK
  have s1 : ((txtOf cl nw lv base).ks.length : Int) ≤ z := hz
  rw [if_neg (by omega), if_pos s1]; rfl

/-- The level ahead of a place. -/
theorem Agr.ahead (h : Agr a e l m lv lv' nw nw') (base : Int) {p : Nat} (hp : p ≤ a) (hr : remC (l.getD p 0) = false) :
    lvK (txtOf l nw lv base) (lvAt (txtOf l nw lv base).ix p - 1) = lvK (txtOf m nw' lv' base) (lvAt (txtOf m nw' lv' base).ix p - 1) := by
  have h1 := h.ae
  have h2 := h.el
  have h3 := h.ll
  have c1 := kept_cut l (b := a + 1) (by omega)
  have c2 := kept_cut m (b := a + 1) (by omega)
  have ec : kpt m (List.range (a + 1)) = kpt l (List.range (a + 1)) := (kpt_congr fun i hi => h.cls i (.inl (by have := List.mem_range.1 hi; omega))).symm
  rw [ec] at c2
  have hm : (p : Int) ∈ kpt l (List.range (a + 1)) := kpt_mem.2 ⟨p, List.mem_range.2 (by omega), hr, rfl⟩
  have hA : ∀ x ∈ kpt l (List.range (a + 1)), ∃ q : Nat, x = q ∧ q ≤ a := fun x hx => by
    obtain ⟨q, hq, _, e1⟩ := kpt_mem.1 hx
    exact ⟨q, e1, by have := List.mem_range.1 hq; omega⟩
  generalize kpt l (List.range (a + 1)) = A at *
  obtain ⟨k, hk, ek⟩ := List.mem_iff_getElem.1 hm
  have ek2 : A.getD k 0 = (p : Int) := by rw [List.getD_eq_getElem?_getD, List.getElem?_eq_getElem hk]; exact ek
  have g1 : (keptL l).getD k 0 = (p : Int) := by rw [c1, getD_left hk]; exact ek2
  have g2 : (keptL m).getD k 0 = (p : Int) := by rw [c2, getD_left hk]; exact ek2
  have n1 : A.length ≤ (keptL l).length := by rw [c1, List.length_append]; omega
  have n2 : A.length ≤ (keptL m).length := by rw [c2, List.length_append]; omega
  have i1 := ix_at l nw lv base (k := k) (by omega)
  have i2 := ix_at m nw' lv' base (k := k) (by omega)
  rw [g1] at i1
  rw [g2] at i2
  rw [i1, i2]
  by_cases hk0 : k = 0
  · subst hk0
    rw [lvK_neg _ _ _ _ (by omega), lvK_neg _ _ _ _ (by omega)]
  · rw [lvK_in _ _ _ _ (k := k - 1) (by omega) (by omega), lvK_in _ _ _ _ (k := k - 1) (by omega) (by omega)]
    rw [c1, c2, getD_left (by omega), getD_left (by omega)]
    obtain ⟨q, e1, hq⟩ := hA _ (getD_mem0 (0 : Int) (l := A) (i := k - 1) (by omega))
    rw [e1, lvAt_nat, lvAt_nat]
    exact h.lvE q (.inl hq)
theorem Agr.behind (h : Agr a e l m lv lv' nw nw') (base : Int) {p : Nat} (hp : e ≤ p) (hpl : p < l.length) (hr : remC (l.getD p 0) = false) : behindL (txtOf l nw lv base) p = behindL (txtOf m nw' lv' base) p := by
  have h1 := h.ae
  have h2 := h.el
  have h3 := h.ll
  have c1 := kept_cut l (b := e) (by omega)
  have c2 := kept_cut m (b := e) (by omega)
  have ec : kpt m (fromL e m.length) = kpt l (fromL e l.length) := by
    rw [← h3]
    exact (kpt_congr fun i hi => h.cls i (.inr (fromL_mem hi).1)).symm
  rw [ec] at c2
  have hm : (p : Int) ∈ kpt l (fromL e l.length) := kpt_mem.2 ⟨p, by unfold fromL; exact List.mem_map.2 ⟨p - e, List.mem_range.2 (by omega), by omega⟩, hr, rfl⟩
  have hC : ∀ x ∈ kpt l (fromL e l.length), ∃ q : Nat, x = q ∧ e ≤ q := fun x hx => by
    obtain ⟨q, hq, _, e1⟩ := kpt_mem.1 hx
    exact ⟨q, e1, (fromL_mem hq).1⟩
  generalize kpt l (fromL e l.length) = C at *
  generalize kpt l (List.range e) = B at *
  generalize kpt m (List.range e) = B' at *
  unfold behindL
  have t1 : begI (lvAt (txtOf l nw lv base).cl p) = begI (lvAt (txtOf m nw' lv' base).cl p) := by
    show begI (lvAt l p) = begI (lvAt m p)
    rw [lvAt_nat, lvAt_nat, h.cls p (.inr hp)]
  have t2 : (lvAt (txtOf l nw lv base).mt p == ((txtOf l nw lv base).cl.length : Int)) = (lvAt (txtOf m nw' lv' base).mt p == ((txtOf m nw' lv' base).cl.length : Int)) := by
    show (lvAt (matchL l) p == (l.length : Int)) = (lvAt (matchL m) p == (m.length : Int))
    rw [h.mt, h3]
  rw [t1, t2]
  split
  · rfl
  · obtain ⟨k, hk, ek⟩ := List.mem_iff_getElem.1 hm
    have ek2 : C.getD k 0 = (p : Int) := by rw [List.getD_eq_getElem?_getD, List.getElem?_eq_getElem hk]; exact ek
    have n1 : (keptL l).length = B.length + C.length := by rw [c1, List.length_append]
    have n2 : (keptL m).length = B'.length + C.length := by rw [c2, List.length_append]
    have g1 : (keptL l).getD (B.length + k) 0 = (p : Int) := by rw [c1, getD_right]; exact ek2
    have g2 : (keptL m).getD (B'.length + k) 0 = (p : Int) := by rw [c2, getD_right]; exact ek2
    have i1 := ix_at l nw lv base (k := B.length + k) (by omega)
    have i2 := ix_at m nw' lv' base (k := B'.length + k) (by omega)
    rw [g1] at i1
    rw [g2] at i2
    rw [i1, i2]
    by_cases hk1 : k + 1 < C.length
    · rw [lvK_in _ _ _ _ (k := B.length + (k + 1)) (by omega) (by omega), lvK_in _ _ _ _ (k := B'.length + (k + 1)) (by omega) (by omega)]
      rw [c1, c2, getD_right, getD_right]
      obtain ⟨q, e3, hq⟩ := hC _ (getD_mem0 (0 : Int) (l := C) (i := k + 1) hk1)
      rw [e3, lvAt_nat, lvAt_nat]
      exact h.lvE q (.inr hq)
    · rw [lvK_out _ _ _ _ (by omega), lvK_out _ _ _ _ (by omega)]

theorem Agr.seq (h : Agr a e l m lv lv' nw nw') (base : Int) {i i' : Nat} (hi : i ∈ leads (rnL lv l).length (nxQ lv l)) (hi' : i' ∈ leads (rnL lv' m).length (nxQ lv' m)) (ha : (a : Int) ∈ plL lv l i) (ha' : (a : Int) ∈ plL lv' m i') :
    sqL l nw lv base i = sqL m nw' lv' base i' ∧ (e : Int) ∈ (sqL l nw lv base i).pl := by
  have him := (leads_mem.1 hi).1
  have him' := (leads_mem.1 hi').1
  have hP := h.places hi hi' ha ha'
  have hsub := h.sub hi hi' ha ha'
  have he := plL_next h.H him ha h.sc
  have hpw := plL_pw (lv := lv) (cl := l) him
  have v1 := plL_level h.H.mt him ha
  have v2 := plL_level h.H'.mt him' ha'
  have ev : ((rnL lv l).getD i default).v = ((rnL lv' m).getD i' default).v := by
    rw [← v1, ← v2, lvAt_nat, lvAt_nat]
    exact h.lvE a (.inl (Nat.le_refl _))
  refine ⟨?_, he⟩
  obtain ⟨t, ht⟩ := plL_ne (lv := lv) (cl := l) him
  have hpos : 0 < (plL lv l i).length := by rw [ht]; simp
  obtain ⟨p0, ep0, l0, r0, _⟩ := plL_at him (getD_mem0 (0 : Int) (l := plL lv l i) (i := 0) hpos)
  obtain ⟨p1, ep1, l1, r1, _⟩ := plL_at him (getD_mem0 (0 : Int) (l := plL lv l i) (i := (plL lv l i).length - 1) (by omega))
  have m0 := (mem_ends hpw ha).1
  have m1 := (mem_ends hpw he).2
  rw [ep0] at m0
  rw [ep1] at m1
  unfold sqL
  rw [← hP, ev]
  unfold sqOf
  rw [ep0, ep1, h.ahead base (by omega) r0, h.behind base (by omega) l1 r1]
  have ecs : clsP (txtOf l nw lv base).nw (plL lv l i) = clsP (txtOf m nw' lv' base).nw (plL lv l i) := by
    unfold clsP
    refine List.map_congr_left fun x hx => ?_
    obtain ⟨_, q, e1, hq⟩ := hsub x hx
    show clsC (lvAt nw x) = clsC (lvAt nw' x)
    rw [e1, lvAt_nat, lvAt_nat, h.nwE q hq]
  rw [ecs]
end

/-- THE PLAIN LAW. -/
theorem within_ok {base : Int} (hb : base = 0 ∨ base = 1) {l m : List Int} {a e : Nat} (hll : l.length = m.length) (ha : a < l.length) (hbg : begI (l.getD a 0) = true) (hm : (matchL l).getD a 0 = (e : Int)) (he : e < l.length)
    (hout : ∀ x, x ≤ a ∨ e ≤ x → l.getD x 0 = m.getD x 0) (hin : ∀ x, l.getD x 0 = m.getD x 0 ∨ (innC (l.getD x 0) = true ∧ innC (m.getD x 0) = true)) (ho : opN l l.length ≤ 60) (ho' : opN m m.length ≤ 60) :
    (∃ s ∈ (leads (rnL (exL base l) l).length (nxQ (exL base l) l)).map (sqL l (exC base l) (exL base l) base), (a : Int) ∈ s.pl) ∧
    (∃ t ∈ (leads (rnL (exL base m) m).length (nxQ (exL base m) m)).map (sqL m (exC base m) (exL base m) base), (a : Int) ∈ t.pl) ∧
    ∀ s ∈ (leads (rnL (exL base l) l).length (nxQ (exL base l) l)).map (sqL l (exC base l) (exL base l) base), ∀ t ∈ (leads (rnL (exL base m) m).length (nxQ (exL base m) m)).map (sqL m (exC base m) (exL base m) base),
      (a : Int) ∈ s.pl → (a : Int) ∈ t.pl → s = t ∧ (e : Int) ∈ s.pl := by
  have hmt : matchL l = matchL m := by
    unfold matchL
    rw [← hll]
    exact congrArg Prod.fst (match_inn l m _ hll hin)
  have ea : l.getD a 0 = m.getD a 0 := hout a (.inl (Nat.le_refl _))
  obtain ⟨h1, _, _, hW⟩ := closed_all hb ha (by rw [← begB]; exact hbg) hm he
  obtain ⟨_, _, _, hW'⟩ := closed_all hb (l := m) (a := a) (e := e) (by omega) (by rw [← begB, ← ea]; exact hbg) (by rw [← hmt]; exact hm) (by omega)
  have eW : m.take (a + 1) ++ m.drop e = l.take (a + 1) ++ l.drop e := by
    congr 1
    · refine List.ext_getElem? fun k => ?_
      rw [List.getElem?_take, List.getElem?_take]
      split
      · have := hout k (.inl (by omega))
        rw [get_getD (l := m) (i := k) (by omega), get_getD (l := l) (i := k) (by omega), this]
      · rfl
    · refine List.ext_getElem? fun k => ?_
      rw [List.getElem?_drop, List.getElem?_drop]
      rcases Nat.lt_or_ge (e + k) l.length with h2 | h2
      · have := hout (e + k) (.inr (by omega))
        rw [get_getD (l := m) (i := e + k) (by omega), get_getD (l := l) (i := e + k) (by omega), this]
      · rw [List.getElem?_eq_none (by omega), List.getElem?_eq_none (by omega)]
  obtain ⟨n1, g1⟩ := hW _ rfl
  obtain ⟨_, g2⟩ := hW' _ eW.symm
  have key : ∀ x, x ≤ a ∨ e ≤ x → (exL base l).getD x 0 = (exL base m).getD x 0 ∧ (exC base l).getD x 0 = (exC base m).getD x 0 := by
    intro x hx
    rcases Nat.lt_or_ge x l.length with hxl | hxl
    · obtain ⟨i, hi, ei⟩ : ∃ i, i < (l.take (a + 1) ++ l.drop e).length ∧ phi a (e - a - 1) i = x := by
        rcases hx with hx | hx
        · exact ⟨x, by omega, by unfold phi; rw [if_pos hx]⟩
        · exact ⟨x - (e - a - 1), by omega, by unfold phi; rw [if_neg (by omega)]; omega⟩
      have e1 := g1 i hi
      have e2 := g2 i hi
      rw [ei] at e1 e2
      exact ⟨e1.1.symm.trans e2.1, e1.2.symm.trans e2.2⟩
    · obtain ⟨k1, k2⟩ := runS_len base l (auP l) l.length
      obtain ⟨k3, k4⟩ := runS_len base m (auP m) m.length
      unfold exL exC
      rw [List.getD_eq_getElem?_getD, List.getD_eq_getElem?_getD, List.getD_eq_getElem?_getD, List.getD_eq_getElem?_getD, List.getElem?_eq_none (by omega), List.getElem?_eq_none (by omega), List.getElem?_eq_none (by omega), List.getElem?_eq_none (by omega)]
      exact ⟨rfl, rfl⟩
  have A : Agr a e l m (exL base l) (exL base m) (exC base l) (exC base m) :=
    ⟨hll, by omega, he, hout, fun x hx => (key x hx).1, fun x hx => (key x hx).2, hmt, hbg, hm, ⟨ex_match hb l, fun a y z h1 h2 h3 h4 h5 h6 h7 => inside_lv hb ho h1 h2 h3 h4 h5 h6 h7⟩,
      ⟨ex_match hb m, fun a y z h1 h2 h3 h4 h5 h6 h7 => inside_lv hb ho' h1 h2 h3 h4 h5 h6 h7⟩⟩
  have hk := begI_kept hbg
  refine ⟨?_, ?_, ?_⟩
  · obtain ⟨i, hi, hp⟩ := plL_ex (lv := exL base l) ha hk
    exact ⟨_, List.mem_map.2 ⟨i, hi, rfl⟩, hp⟩
  · obtain ⟨i, hi, hp⟩ := plL_ex (lv := exL base m) (cl := m) (y := a) (by omega) (by rw [← ea]; exact hk)
    exact ⟨_, List.mem_map.2 ⟨i, hi, rfl⟩, hp⟩
  · rintro s hs t ht h1 h2
    obtain ⟨i, hi, rfl⟩ := List.mem_map.1 hs
    obtain ⟨i', hi', rfl⟩ := List.mem_map.1 ht
    exact A.seq base hi hi' h1 h2
end Go.Proofs.Ytpdackbcnbhppaa
