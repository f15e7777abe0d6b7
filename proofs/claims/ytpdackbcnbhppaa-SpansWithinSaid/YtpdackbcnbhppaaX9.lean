/- The places of a sequence by what stands next to each: the next kept one of its level, or its isolate's end. -/
import Derived.Test.YtpdackbcnbhppaaX5
namespace Go.Proofs.Ytpdackbcnbhppaa
open Go.RowKit

/-- Neighbouring groups are of different levels. -/
theorem grp_max (lv : List Int) : ∀ (d : Nat) (ks : List Int), ks.length ≤ d → ∀ i, i + 1 < (grp lv ks).length → lvAt lv (((grp lv ks).getD i []).getD 0 0) ≠ lvAt lv (((grp lv ks).getD (i + 1) []).getD 0 0)
  | _, [], _, i, h => by simp [grp] at h
  | 0, a :: t, hd, _, _ => by simp at hd
  | d + 1, a :: t, hd, i, h => by
    unfold grp at h ⊢
    have hl : (t.drop (spanN lv (lvAt lv a) t)).length ≤ d := by simp at hd ⊢; omega
    cases i with
    | zero =>
      simp only [List.getD_cons_zero, List.getD_cons_succ]
      rcases hdr : t.drop (spanN lv (lvAt lv a) t) with _ | ⟨b, t'⟩
      · rw [hdr] at h
        simp [grp] at h
      · have hlt : spanN lv (lvAt lv a) t < t.length := by
          rcases Nat.lt_or_ge (spanN lv (lvAt lv a) t) t.length with h1 | h1
          · exact h1
          · rw [List.drop_eq_nil_of_le h1] at hdr; cases hdr
        have := spanN_out lv (lvAt lv a) t hlt
        unfold grp
        simp only [List.getD_cons_zero]
        have hb : t.getD (spanN lv (lvAt lv a) t) 0 = b := by
          rw [List.drop_eq_getElem_cons hlt] at hdr
          injection hdr with h1 _
          rw [List.getD_eq_getElem?_getD, List.getElem?_eq_getElem hlt]; exact h1
        rw [hb] at this
        exact fun e => this e.symm
    | succ i =>
      simp only [List.getD_cons_succ]
      exact grp_max lv d _ hl i (by simpa using h)

section
variable {lv cl : List Int}
theorem grpAt_max {i : Nat} (h : i + 1 < (rnL lv cl).length) : lvAt lv ((grpAt lv cl i).getD 0 0) ≠ lvAt lv ((grpAt lv cl (i + 1)).getD 0 0) :=
  grp_max lv _ _ (Nat.le_refl _) i (by rw [← rnL_len]; exact h)
theorem grpAt_of {y : Nat} (h : y < cl.length) (hr : remC (cl.getD y 0) = false) : ∃ j, j < (rnL lv cl).length ∧ (y : Int) ∈ grpAt lv cl j := by
  have hm : (y : Int) ∈ (grp lv (keptL cl)).flatten := by rw [(grps lv cl).flat]; exact keptL_mem.2 ⟨y, rfl, h, hr⟩
  obtain ⟨g, hg, hy⟩ := List.mem_flatten.1 hm
  obtain ⟨j, hj, rfl⟩ := List.mem_iff_getElem.1 hg
  refine ⟨j, by rw [rnL_len]; exact hj, ?_⟩
  unfold grpAt
  rw [List.getD_eq_getElem?_getD, List.getElem?_eq_getElem hj]
  exact hy
theorem grpAt_uniq {i j : Nat} (hi : i < (rnL lv cl).length) (hj : j < (rnL lv cl).length) {x : Int} (h1 : x ∈ grpAt lv cl i) (h2 : x ∈ grpAt lv cl j) : i = j := by
  rcases Nat.lt_trichotomy i j with h | h | h
  · have := grp_lt h hj h1 h2; omega
  · exact h
  · have := grp_lt h hi h2 h1; omega
theorem grpAt_head {i : Nat} (h : i < (rnL lv cl).length) : (grpAt lv cl i).getD 0 0 ∈ grpAt lv cl i := getD_mem0 _ (List.length_pos_iff.2 ((grps lv cl).ne _ (grpAt_mem h)))
theorem grpAt_lv {i : Nat} (h : i < (rnL lv cl).length) {x : Int} (hx : x ∈ grpAt lv cl i) : lvAt lv x = lvAt lv ((grpAt lv cl i).getD 0 0) := (grps lv cl).level _ (grpAt_mem h) _ hx
theorem lvAt_nat (lv : List Int) (x : Nat) : lvAt lv (x : Int) = lv.getD x 0 := by unfold lvAt; rw [Int.toNat_natCast]

/-- Kept neighbours of one level are of one group. -/
theorem adj_same {x y : Nat} (hxy : x < y) (hy : y < cl.length) (hry : remC (cl.getD y 0) = false) (hl : lv.getD x 0 = lv.getD y 0) (hn : ∀ z, x < z → z < y → remC (cl.getD z 0) = true)
    {j : Nat} (hj : j < (rnL lv cl).length) (hx : (x : Int) ∈ grpAt lv cl j) : (y : Int) ∈ grpAt lv cl j := by
  obtain ⟨j', hj', hy'⟩ := grpAt_of (lv := lv) hy hry
  rcases Nat.lt_trichotomy j j' with h | h | h
  · exfalso
    have hmid : ∀ k, j < k → k < j' → False := by
      intro k h1 h2
      have hk : k < (rnL lv cl).length := by omega
      have hh := grpAt_head (lv := lv) (cl := cl) hk
      obtain ⟨z, ez, lz, rz⟩ := (grps lv cl).kept (grpAt_mem hk) hh
      have e1 := grp_lt h1 hk hx hh
      have e2 := grp_lt h2 hj' hh hy'
      rw [ez] at e1 e2
      have := hn z (by omega) (by omega)
      rw [rz] at this; cases this
    have e : j' = j + 1 := by
      rcases Nat.lt_or_ge (j + 1) j' with h1 | h1
      · exact (hmid (j + 1) (by omega) h1).elim
      · omega
    subst e
    have := grpAt_max hj'
    rw [← grpAt_lv hj hx, ← grpAt_lv hj' hy', lvAt_nat, lvAt_nat] at this
    exact this hl
  · subst h; exact hy'
  · exfalso
    have := grp_lt h hj hy' hx; omega

/-- Levels of isolates where nothing is over. -/
structure NoOv (lv cl : List Int) : Prop where
  mt : LvMt lv cl
  ins : ∀ a y z : Nat, a < cl.length → begI (cl.getD a 0) = true → (matchL cl).getD a 0 = (y : Int) → y < cl.length → a < z → z < y → remC (cl.getD z 0) = false → lv.getD a 0 < lv.getD z 0

/-- The next in a sequence. -/
structure Sc (lv cl : List Int) (x y : Nat) : Prop where
  lt : x < y
  len : y < cl.length
  rx : remC (cl.getD x 0) = false
  ry : remC (cl.getD y 0) = false
  lv : lv.getD x 0 = lv.getD y 0
  how : (∀ z, x < z → z < y → remC (cl.getD z 0) = true) ∨ (begI (cl.getD x 0) = true ∧ (matchL cl).getD x 0 = (y : Int))

theorem Sc.fn (H : NoOv lv cl) {x y y' : Nat} (h : Sc lv cl x y) (h' : Sc lv cl x y') : y = y' := by
  have key : ∀ {y y' : Nat}, Sc lv cl x y → Sc lv cl x y' → (∀ z, x < z → z < y → remC (cl.getD z 0) = true) → y = y' := by
    intro y y' h h' hn
    rcases Nat.lt_trichotomy y y' with h1 | h1 | h1
    · rcases h'.how with h2 | ⟨h2, h3⟩
      · have := h2 y h.lt h1; rw [h.ry] at this; cases this
      · have := H.ins x y' y (by have := h.lt; have := h.len; omega) h2 h3 h'.len h.lt h1 h.ry
        have := h.lv; omega
    · exact h1
    · have := hn y' h'.lt h1; rw [h'.ry] at this; cases this
  rcases h.how with h2 | ⟨h2, h3⟩
  · exact key h h' h2
  · rcases h'.how with h4 | ⟨_, h5⟩
    · exact (key h' h h4).symm
    · rw [h3] at h5; omega
theorem Sc.inj (H : NoOv lv cl) {x x' y : Nat} (h : Sc lv cl x y) (h' : Sc lv cl x' y) : x = x' := by
  have key : ∀ {x x' : Nat}, Sc lv cl x y → Sc lv cl x' y → (∀ z, x < z → z < y → remC (cl.getD z 0) = true) → x = x' := by
    intro x x' h h' hn
    rcases Nat.lt_trichotomy x x' with h1 | h1 | h1
    · have := hn x' h1 h'.lt; rw [h'.rx] at this; cases this
    · exact h1
    · rcases h'.how with h2 | ⟨h2, h3⟩
      · have := h2 x h1 h.lt; rw [h.rx] at this; cases this
      · have := H.ins x' y x (by have := h'.lt; have := h'.len; omega) h2 h3 h'.len h1 h.lt h.rx
        have := h.lv; have := h'.lv; omega
  rcases h.how with h2 | ⟨h2, h3⟩
  · exact key h h' h2
  · rcases h'.how with h4 | ⟨_, h5⟩
    · exact (key h' h h4).symm
    · have m1 := match_back (by have := h.lt; have := h.len; omega) h3 h.len
      have m2 := match_back (by have := h'.lt; have := h'.len; omega) h5 h.len
      rw [m1] at m2; omega

theorem findR_some {rs : List Rn} {a : Int} {j : Nat} (h : (((rs.getD j default).f : Nat) : Int) = a) : ∀ k, j < k → findR rs a k ≠ -1
  | 0, hk => by omega
  | k + 1, hk => by
    unfold findR
    split
    · omega
    · rename_i hne
      rcases Nat.lt_or_ge j k with h1 | h1
      · exact findR_some h k h1
      · have : j = k := by omega
        subst this
        exact absurd h hne

/-- What stands next to one of a sequence is of the sequence. -/
theorem plL_next (H : NoOv lv cl) {i : Nat} (hi : i < (rnL lv cl).length) {x y : Nat} (hx : (x : Int) ∈ plL lv cl i) (h : Sc lv cl x y) : (y : Int) ∈ plL lv cl i := by
  obtain ⟨a, ea, _, _, j, hj, hxj⟩ := plL_at hi hx
  have hjm := (ch_ge nxQ_good hi j hj).2
  have mem : ∀ k ∈ ch (rnL lv cl).length (nxQ lv cl) i, (y : Int) ∈ grpAt lv cl k → (y : Int) ∈ plL lv cl i := fun k hk hy => List.mem_flatMap.2 ⟨k, hk, hy⟩
  by_cases hn : ∀ z, x < z → z < y → remC (cl.getD z 0) = true
  · exact mem j hj (adj_same h.lt h.len h.ry h.lv hn hjm hxj)
  · obtain ⟨hb, hm⟩ : begI (cl.getD x 0) = true ∧ (matchL cl).getD x 0 = (y : Int) := by
      rcases h.how with h1 | h1
      · exact absurd h1 hn
      · exact h1
    have hz : ∃ z, x < z ∧ z < y ∧ remC (cl.getD z 0) = false := by
      rcases Classical.em (∃ z, x < z ∧ z < y ∧ remC (cl.getD z 0) = false) with h1 | h1
      · exact h1
      · refine absurd (fun z h2 h3 => ?_) hn
        rcases hr : remC (cl.getD z 0) with _ | _
        · exact absurd ⟨z, h2, h3, hr⟩ h1
        · rfl
    obtain ⟨z, hz1, hz2, hzr⟩ := hz
    have hxl : x < cl.length := by have := h.lt; have := h.len; omega
    have hylen := h.len
    have hzlv := H.ins x y z hxl hb hm hylen hz1 hz2 hzr
    have noz : ∀ {k : Nat}, k < (rnL lv cl).length → (x : Int) ∈ grpAt lv cl k → ∀ {w : Nat}, (w : Int) ∈ grpAt lv cl k → z ≤ w → False := by
      intro k hk h1 w h2 h3
      have := (grps lv cl).between (grpAt_mem hk) h1 h2 (a := z) (by omega) (by omega) (by omega) hzr
      have e1 := grpAt_lv hk this
      have e2 := grpAt_lv hk h1
      rw [lvAt_nat] at e1 e2
      omega
    obtain ⟨a1, b, ea1, eb, la1, lb, _, m0, mb, hF, hL, hV⟩ := first_last hjm
    have hxb : b = x := by
      have hle := mem_ends ((grps lv cl).pw _ (grpAt_mem hjm)) hxj
      rw [eb] at hle
      have hxb : x ≤ b := by omega
      rcases Nat.lt_or_ge x b with h1 | h1
      · exfalso
        rcases Nat.lt_or_ge b z with h2 | h2
        · obtain ⟨b', eb', _, rb⟩ := (grps lv cl).kept (grpAt_mem hjm) mb
          have : b = b' := by omega
          subst this
          have h3 := H.ins x y b hxl hb hm hylen h1 (by omega) rb
          have e1 := grpAt_lv hjm mb
          have e2 := grpAt_lv hjm hxj
          rw [lvAt_nat] at e1 e2
          omega
        · exact noz hjm hxj mb h2
      · omega
    subst hxb
    obtain ⟨j', hj', hy'⟩ := grpAt_of (lv := lv) hylen h.ry
    obtain ⟨a2, b2, ea2, eb2, la2, lb2, _, m2, _, hF2, _, _⟩ := first_last hj'
    have hle := mem_ends ((grps lv cl).pw _ (grpAt_mem hj')) hy'
    rw [ea2] at hle
    have hay : a2 = y := by
      rcases Nat.lt_or_ge a2 y with h1 | h1
      · exfalso
        rcases Nat.lt_or_ge b a2 with h2 | h2
        · obtain ⟨b', eb', _, rb⟩ := (grps lv cl).kept (grpAt_mem hj') m2
          have : a2 = b' := by omega
          subst this
          have h3 := H.ins b y a2 hxl hb hm hylen h2 h1 rb
          have e1 := grpAt_lv hj' m2
          have e2 := grpAt_lv hj' hy'
          rw [lvAt_nat] at e1 e2
          have := h.lv
          omega
        · have hin := (grps lv cl).between (grpAt_mem hj') m2 hy' (a := b) (by omega) (by have := h.lt; omega) (by omega) h.rx
          exact noz hj' hin hy' (by omega)
      · omega
    subst hay
    have hnx : nxQ lv cl j = findR (rnL lv cl) (a2 : Int) (rnL lv cl).length := by
      unfold nxQ nxT
      rw [hL, lvAt_nat, lvAt_nat, if_pos hb, hm]
    have hne := findR_some (rs := rnL lv cl) (a := (a2 : Int)) (j := j') (by rw [hF2]) _ hj'
    rcases findR_spec (rnL lv cl) (a2 : Int) (rnL lv cl).length with e | ⟨k, e, hk, hkf⟩
    · exact absurd e hne
    · obtain ⟨a3, _, ea3, _, _, _, _, m3, _, hF3, _, _⟩ := first_last hk
      rw [hF3] at hkf
      have : a3 = a2 := by omega
      subst this
      exact mem k (ch_succ nxQ_good hi j hj k (by rw [hnx, e])) m3
theorem plL_uniq {i i' : Nat} (hi : i ∈ leads (rnL lv cl).length (nxQ lv cl)) (hi' : i' ∈ leads (rnL lv cl).length (nxQ lv cl)) {x : Int} (h : x ∈ plL lv cl i) (h' : x ∈ plL lv cl i') : i = i' := by
  have l1 := leads_mem.1 hi
  have l2 := leads_mem.1 hi'
  obtain ⟨_, _, _, _, j, hj, hxj⟩ := plL_at l1.1 h
  obtain ⟨_, _, _, _, j', hj', hxj'⟩ := plL_at l2.1 h'
  have e := grpAt_uniq (ch_ge nxQ_good l1.1 j hj).2 (ch_ge nxQ_good l2.1 j' hj').2 hxj hxj'
  subst e
  exact ch_once nxQ_good nxQ_inj l1.1 l2.1 l1.2 l2.2 (j + 1) j (by omega) hj hj'
theorem plL_ex {y : Nat} (h : y < cl.length) (hr : remC (cl.getD y 0) = false) : ∃ i ∈ leads (rnL lv cl).length (nxQ lv cl), (y : Int) ∈ plL lv cl i := by
  have hm : (y : Int) ∈ keptL cl := keptL_mem.2 ⟨y, rfl, h, hr⟩
  rw [← (places_perm (lv := lv) (cl := cl)).mem_iff] at hm
  exact List.mem_flatMap.1 hm
theorem plL_prev (H : NoOv lv cl) {i : Nat} (hi : i ∈ leads (rnL lv cl).length (nxQ lv cl)) {x y : Nat} (hy : (y : Int) ∈ plL lv cl i) (h : Sc lv cl x y) : (x : Int) ∈ plL lv cl i := by
  obtain ⟨i', hi', hx⟩ := plL_ex (lv := lv) (cl := cl) (y := x) (by have := h.lt; have := h.len; omega) h.rx
  have := plL_next H (leads_mem.1 hi').1 hx h
  have e := plL_uniq hi hi' hy this
  rw [e]; exact hx
/-- One behind the other in a sequence. -/
theorem plL_link (H : NoOv lv cl) {i : Nat} (hi : i < (rnL lv cl).length) {k : Nat} (hk : k + 1 < (plL lv cl i).length) : ∃ x y : Nat, (plL lv cl i).getD k 0 = x ∧ (plL lv cl i).getD (k + 1) 0 = y ∧ Sc lv cl x y := by
  have m0 := getD_mem0 (0 : Int) (l := plL lv cl i) (i := k) (by omega)
  have m1 := getD_mem0 (0 : Int) (l := plL lv cl i) (i := k + 1) hk
  obtain ⟨x, ex, lx, rx, _⟩ := plL_at hi m0
  obtain ⟨y, ey, ly, ry, _⟩ := plL_at hi m1
  have l0 := plL_level H.mt hi m0
  have l1 := plL_level H.mt hi m1
  obtain ⟨g1, g2⟩ := plL_lnk hi k hk
  rw [ex] at l0 g1 g2
  rw [ey] at l1 g1 g2
  rw [lvAt_nat] at l0 l1
  refine ⟨x, y, ex, ey, by omega, ly, rx, ry, by rw [l0, l1], ?_⟩
  rcases g2 with g2 | g2
  · exact .inl fun z h1 h2 => g2 z (by omega) (by omega)
  · rw [lvAt_nat] at g2
    refine .inr ⟨?_, g2⟩
    rcases (matchL_inv cl).kind x _ (get_getD lx) with ⟨h, _⟩ | ⟨h, h3⟩ | ⟨q, h, _, hq, h3 | h3⟩
    · rw [getD_of h] at g2; omega
    · rw [begB]; exact h3
    · rw [begB]; exact h3.2.1
    · rw [getD_of h] at g2; omega
theorem plL_pw {i : Nat} (hi : i < (rnL lv cl).length) : (plL lv cl i).Pairwise (· < ·) := by
  have key : ∀ (l : List Int), (∀ k, k + 1 < l.length → l.getD k 0 < l.getD (k + 1) 0) → l.Pairwise (· < ·) := by
    intro l
    induction l with
    | nil => intro _; exact List.Pairwise.nil
    | cons a t ih =>
      intro h
      have ht := ih fun k hk => by simpa using h (k + 1) (by simpa using hk)
      refine List.pairwise_cons.2 ⟨fun x hx => ?_, ht⟩
      cases t with
      | nil => cases hx
      | cons b t' =>
        have h0 := h 0 (by simp)
        simp only [List.getD_cons_zero, List.getD_cons_succ] at h0
        rcases List.mem_cons.1 hx with rfl | hx
        · exact h0
        · have := (List.pairwise_cons.1 ht).1 x hx; omega
  exact key _ fun k hk => (plL_lnk hi k hk).1
end
end Go.Proofs.Ytpdackbcnbhppaa
