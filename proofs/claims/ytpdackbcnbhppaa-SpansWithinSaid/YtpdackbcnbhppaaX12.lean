/- SpansWithin walked. -/
import Derived.Test.YtpdackbcnbhppaaX11
import Derived.Test.YtpdackbcnbhppaaT11
import Derived.Test.YtpdackbcnbhppaaH3
import Derived.BigQuiet
import Derived.Deep.QuietTactic
import Derived.Deep.CutBlock
namespace Go.Proofs.Ytpdackbcnbhppaa
open Go.RowKit
attribute [local go_sem] Oper.semAt_some

/-- An isolate that has its end. -/
def bgC (l : List Int) (i : Nat) : Bool := (!innC (l.getD i 0) && decide ((matchL l).getD i 0 > (i : Int))) && decide ((matchL l).getD i 0 < (l.length : Int))
def bgT (l : List Int) : Nat → List Int
  | 0 => []
  | k + 1 => if bgC l k = true then bgT l k ++ [(k : Int)] else bgT l k
theorem bgT_len (l : List Int) : ∀ k, (bgT l k).length ≤ k
  | 0 => Nat.le_refl _
  | k + 1 => by
    have := bgT_len l k
    unfold bgT
    split
    · rw [List.length_append]; simp; omega
    · omega
theorem bgT_mem {l : List Int} {x : Int} : ∀ {k}, x ∈ bgT l k → ∃ a : Nat, x = a ∧ a < k ∧ bgC l a = true
  | 0, h => by simp [bgT] at h
  | k + 1, h => by
    unfold bgT at h
    split at h
    · rename_i hb
      rcases List.mem_append.1 h with h | h
      · obtain ⟨a, h1, h2, h3⟩ := bgT_mem h
        exact ⟨a, h1, by omega, h3⟩
      · rw [List.mem_singleton] at h
        exact ⟨k, h, by omega, hb⟩
    · obtain ⟨a, h1, h2, h3⟩ := bgT_mem h
      exact ⟨a, h1, by omega, h3⟩
theorem bgC_spec {l : List Int} {a : Nat} (ha : a < l.length) (h : bgC l a = true) : ∃ e : Nat, begI (l.getD a 0) = true ∧ (matchL l).getD a 0 = (e : Int) ∧ a < e ∧ e < l.length := by
  simp only [bgC, Bool.and_eq_true, decide_eq_true_eq] at h
  obtain ⟨⟨_, h2⟩, h3⟩ := h
  rcases (matchL_inv l).kind a _ (get_getD ha) with ⟨h4, _⟩ | ⟨h4, _⟩ | ⟨y, h4, _, hy, h5⟩
  · rw [getD_of h4] at h2; omega
  · rw [getD_of h4] at h3; omega
  · rw [getD_of h4] at h2
    rcases h5 with ⟨h6, h7, _⟩ | ⟨h6, _⟩
    · exact ⟨y, by rw [begB]; exact h7, getD_of h4, h6, hy⟩
    · omega
theorem opN_le (l : List Int) : ∀ k, opN l k ≤ k
  | 0 => Nat.le_refl _
  | k + 1 => by
    have := opN_le l k
    unfold opN
    split <;> omega
theorem opN_set (l : List Int) {i : Nat} (c : Int) : ∀ k, opN (l.set i c) k ≤ opN l k + (if opC c = true then 1 else 0) ∧ (k ≤ i → opN (l.set i c) k = opN l k)
  | 0 => ⟨by simp [opN], fun _ => rfl⟩
  | k + 1 => by
    obtain ⟨h1, h2⟩ := opN_set l (i := i) c k
    have hg : k ≠ i → (l.set i c).getD k 0 = l.getD k 0 := fun h => by
      rw [List.getD_eq_getElem?_getD, List.getElem?_set_ne (by omega), ← List.getD_eq_getElem?_getD]
    refine ⟨?_, fun hk => ?_⟩
    · unfold opN
      by_cases hki : k = i
      · subst hki
        rw [h2 (Nat.le_refl _)]
        have hc : (l.set k c).getD k 0 = c ∨ (l.set k c).getD k 0 = l.getD k 0 := by
          rcases Nat.lt_or_ge k l.length with h3 | h3
          · left; rw [List.getD_eq_getElem?_getD, List.getElem?_set_self h3]; rfl
          · right; rw [List.set_eq_of_length_le h3]
        rcases hc with hc | hc
        · rw [hc]
          split <;> split <;> omega
        · rw [hc]
          split <;> split <;> omega
      · rw [hg hki]
        split <;> omega
    · unfold opN
      rw [hg (by omega), h2 (by omega)]

theorem fm_len_mem {α β : Type} (f : α → List β) : ∀ {ss : List α} {s : α}, s ∈ ss → (f s).length ≤ (ss.flatMap f).length
  | x :: ss, s, h => by
    rw [List.flatMap_cons, List.length_append]
    rcases List.mem_cons.1 h with rfl | h
    · omega
    · have := fm_len_mem f h; omega
theorem fm_len {α β : Type} (f : α → List β) : ∀ (ss : List α), (∀ s ∈ ss, 0 < (f s).length) → ss.length ≤ (ss.flatMap f).length
  | [], _ => by simp
  | s :: ss, h => by
    have h1 := fm_len f ss (fun x hx => h x (List.mem_cons_of_mem _ hx))
    have h2 := h s List.mem_cons_self
    rw [List.flatMap_cons, List.length_append, List.length_cons]
    omega
/-- The sequences of explicit levels are few and short. -/
theorem exS_small {base : Int} (hb : base = 0 ∨ base = 1) (l : List Int) : (exS base l).length ≤ l.length ∧ ∀ s ∈ exS base l, s.pl.length ≤ l.length := by
  have H := each_ok hb l
  have hk : ((exS base l).flatMap Sq.pl).length ≤ l.length := by
    have h1 := H.perm.length_eq
    have h2 := keptT_length l l.length
    have h3 : (keptL l).length ≤ l.length := h2
    exact Nat.le_trans (Nat.le_of_eq h1) h3
  refine ⟨Nat.le_trans (fm_len Sq.pl _ fun s hs => (H.place s hs).1) hk, fun s hs => Nat.le_trans (fm_len_mem Sq.pl hs) hk⟩
/-- What the answer's row is to 'has'. -/
theorem hasRow_of {w : World} {B : Nat} {ov : Value} {ss : List Sq} (h : SqsOwn w B ov ss) (hne : 0 < ss.length) : ∃ g cap, ov = .slice (some ⟨g, 0, none⟩) ss.length cap ∧ HasRow w g ss := by
  obtain ⟨L, hL, hS⟩ := h
  have hl : L.length = ss.length := by rw [← hL, List.length_map]
  obtain ⟨g, cap, hv, _, hg⟩ := World.ownsRow.form hS.row (by omega)
  refine ⟨g, cap, by rw [hv, hl], hg, fun i s hs => ?_⟩
  rw [← hL, List.getElem?_map] at hs
  obtain ⟨e, he, rfl⟩ := Option.map_eq_some_iff.1 hs
  subst hv
  obtain ⟨A, c, C, d, -, -, q0, q1, q2, q3, q4, rp, rc⟩ := hS.get he
  exact ⟨A, c, C, d, q0, q1, q2, q3, q4, rp, rc⟩
theorem HasRow.aft {w w' : World} {g : Nat} {ss : List Sq} (h : HasRow w g ss) (ha : Aft w w') : HasRow w' g ss := by
  obtain ⟨k1, -, -⟩ := bcell ha
  refine ⟨Nat.lt_of_lt_of_le h.lt ha.le, fun i s hs => ?_⟩
  obtain ⟨A, c, C, d, q0, q1, q2, q3, q4, rp, rc⟩ := h.at_ i s hs
  have hl := h.lt
  exact ⟨A, c, C, d, by rw [k1 _ _ hl]; exact q0, by rw [k1 _ _ hl]; exact q1, by rw [k1 _ _ hl]; exact q2, by rw [k1 _ _ hl]; exact q3, by rw [k1 _ _ hl]; exact q4, (rp.aft ha).more ha.le, (rc.aft ha).more ha.le⟩

theorem has_ok2 {w : World} {g n c a : Nat} {ss : List Sq} (hn : n = ss.length) (h : HasRow w g ss) (hx : ∃ s ∈ ss, (a : Int) ∈ s.pl) (hl : ∀ s ∈ ss, s.pl.length ≤ 4000) (hn4 : n ≤ 4000) :
    Calls Try.prog 24 #[.slice (some ⟨g, 0, none⟩) n c, .int .i64 a] w fun r w' => ∃ pl cs lv so eo A c C d, (⟨pl, cs, lv, so, eo⟩ : Sq) ∈ ss ∧ (a : Int) ∈ pl ∧ r = .returned (.tuple #[.agg #[.slice A pl.length c, .slice C cs.length d, .int .i8 lv, .int .u8 so, .int .u8 eo], .bool true]) ∧
      RdInts w' w'.heap.size .i64 A pl ∧ RdInts w' w'.heap.size .u8 C cs ∧ Aft w w' := by
  refine (has_ok hn h hx hl hn4).mono ?_
  rintro r w' ⟨⟨pl, cs, lv, so, eo⟩, A, c, C, d, h1, h2, h3, h4, h5, h6⟩
  exact ⟨pl, cs, lv, so, eo, A, c, C, d, h1, h2, h3, (h4.aft h6).more (Aft.le h6), (h5.aft h6).more (Aft.le h6), h6⟩

theorem hasRow_one {w : World} {g n m c d : Nat} {t : TypeId} {A C : Option Addr} {pl cs : List Int} {lv so eo : Int} (hn : pl.length = n) (hm : cs.length = m) (h : Blk w g t #[.slice A n c, .slice C m d, .int .i8 lv, .int .u8 so, .int .u8 eo])
    (hp : RdInts w w.heap.size .i64 A pl) (hc : RdInts w w.heap.size .u8 C cs) : HasRow w g [⟨pl, cs, lv, so, eo⟩] := by
  obtain ⟨q0, q1, q2, q3, q4, _, ql⟩ := h.c5
  subst hn hm
  refine ⟨ql, fun i s hs => ?_⟩
  rcases i with _ | i
  · simp only [List.getElem?_cons_zero, Option.some.injEq] at hs
    subst hs
    exact ⟨A, c, C, d, q0, q1, q2, q3, q4, hp, hc⟩
  · simp at hs
theorem same_ok2 {w : World} {n m c d c' d' : Nat} {A C A' C' : Option Addr} {pl cs : List Int} {lv so eo : Int} (hn : pl.length = n) (hm : cs.length = m) (h1 : RdInts w w.heap.size .i64 A pl) (h2 : RdInts w w.heap.size .u8 C cs)
    (h3 : RdInts w w.heap.size .i64 A' pl) (h4 : RdInts w w.heap.size .u8 C' cs) (hl : n ≤ 4000) (hl2 : m ≤ 4000) :
    Calls Try.prog 17 #[.agg #[.slice A n c, .slice C m d, .int .i8 lv, .int .u8 so, .int .u8 eo], .agg #[.slice A' n c', .slice C' m d', .int .i8 lv, .int .u8 so, .int .u8 eo]] w fun r w' => r = .returned (.bool true) ∧ Aft w w' := by
  have := Same_ok (s := ⟨pl, cs, lv, so, eo⟩) (t := ⟨pl, cs, lv, so, eo⟩) (c := c) (d := d) (c' := c') (d' := d') hn.symm hm.symm hn.symm hm.symm h1 h2 h3 h4 (by omega) (by omega)
  have e : sameS (⟨pl, cs, lv, so, eo⟩ : Sq) ⟨pl, cs, lv, so, eo⟩ = true := by simp [sameS]
  rw [e] at this
  exact this

/-- What stands within is exchanged, up to a place. -/
structure MidL (l mm : List Int) (a i dd : Nat) : Prop where
  len : mm.length = l.length
  out : ∀ x, x ≤ a ∨ i ≤ x → l.getD x 0 = mm.getD x 0
  inn : ∀ x, l.getD x 0 = mm.getD x 0 ∨ (innC (l.getD x 0) = true ∧ innC (mm.getD x 0) = true)
  d1 : opN l l.length ≤ dd
  d2 : opN mm l.length ≤ dd
  d3 : dd ≤ l.length + i
theorem MidL.next {l mm : List Int} {a i dd : Nat} (h : MidL l mm a i dd) : MidL l mm a (i + 1) dd :=
  ⟨h.len, fun x hx => h.out x (by omega), h.inn, h.d1, h.d2, by have := h.d3; omega⟩
theorem MidL.mono {l mm : List Int} {a i i' dd : Nat} (h : MidL l mm a i dd) (hi : i ≤ i') : MidL l mm a i' dd :=
  ⟨h.len, fun x hx => h.out x (by omega), h.inn, h.d1, h.d2, by have := h.d3; omega⟩
theorem MidL.put {l mm : List Int} {a i dd : Nat} (h : MidL l mm a i dd) (hai : a < i) (hi : i < l.length) {y : Int} (h1 : innC (mm.getD i 0) = true) (h2 : innC y = true) : MidL l (mm.set i y) a (i + 1) (dd + (if opC y = true then 1 else 0)) := by
  have hg : ∀ k, k ≠ i → (mm.set i y).getD k 0 = mm.getD k 0 := fun k hk => by
    rw [List.getD_eq_getElem?_getD, List.getElem?_set_ne (by omega), ← List.getD_eq_getElem?_getD]
  have hs : (mm.set i y).getD i 0 = y := by
    rw [List.getD_eq_getElem?_getD, List.getElem?_set_self (by rw [h.len]; exact hi)]; rfl
  refine ⟨by rw [List.length_set]; exact h.len, fun x hx => ?_, fun x => ?_, ?_, ?_, ?_⟩
  · rw [hg x (by omega)]; exact h.out x (by omega)
  · by_cases e : x = i
    · subst e
      rw [hs]
      right
      rcases h.inn x with h3 | ⟨h3, _⟩
      · rw [h3]; exact ⟨h1, h2⟩
      · exact ⟨h3, h2⟩
    · rw [hg x e]; exact h.inn x
  · have := h.d1; omega
  · have := (opN_set mm (i := i) y l.length).1
    have := h.d2; omega
  · have := h.d3
    split <;> omega

set_option maxRecDepth 100000 in
set_option maxHeartbeats 4000000 in
theorem within_walk {w : World} {n c n2 c2 : Nat} {A A2 : Option Addr} {l other : List Int} {base which : Int} (hn : n = l.length) (hn2 : n2 = other.length) (h : RdInts w w.heap.size .u8 A l) (h2 : RdInts w w.heap.size .u8 A2 other) :
    Calls Try.prog 5 #[.int .i8 base, .slice A n c, .slice A2 n2 c2, .int .i64 which] w fun r w' => r = .returned (.bool true) ∧ Below w.heap.size w w' := by
  have CM : n ≤ 2000 → Calls Try.prog 20 #[.slice A n c] w fun r w' => ∃ g, r = .returned (.slice (some ⟨g, 0, none⟩) n n) ∧ Ints w' w.heap.size 3 .i64 (.slice (some ⟨g, 0, none⟩) n n) (matchL l) ∧ Below w.heap.size w w' :=
    fun h4 => Match_n hn h (by omega)
  have k3 : (matchL l).length = n := by rw [hn]; exact (matchL_inv l).len
  have HN := Lib.hid hn
  have HN2 := Lib.hid hn2
  have HCM := Lib.hid CM
  have HK3 := Lib.hid k3
  clear hn hn2 CM k3
  obtain ⟨bd, hbd⟩ : ∃ bd : Bool, decide ((base ≠ 0 ∧ base ≠ 1) ∨ 2000 < n) = bd := ⟨_, rfl⟩
  have HBD := Lib.hid hbd
  clear hbd
  go_enter Try.func5, Try.ntmps5
  go_upto_region 1 with (fail)
  go_cut [41] from 31 to 41 (fun cv wx => cv = .bool bd ∧ wx = w)
  case first =>
    clear h h2 HCM HK3 HN HN2
    by_cases b0 : base = 0
    · subst b0
      by_cases h4 : 2000 < n
      · have e : bd = true := by rw [← HBD.out]; simp; omega
        subst e
        clear HBD
        go_wp2
        go_meet
        exact ⟨by simp; omega, rfl⟩
      · have e : bd = false := by rw [← HBD.out]; simp; omega
        subst e
        clear HBD
        go_wp2
        go_meet
        exact ⟨by simp; omega, rfl⟩
    by_cases b1 : base = 1
    · subst b1
      by_cases h4 : 2000 < n
      · have e : bd = true := by rw [← HBD.out]; simp; omega
        subst e
        clear HBD b0
        go_wp2
        go_meet
        exact ⟨by simp; omega, rfl⟩
      · have e : bd = false := by rw [← HBD.out]; simp; omega
        subst e
        clear HBD b0
        go_wp2
        go_meet
        exact ⟨by simp; omega, rfl⟩
    · have e : bd = true := by rw [← HBD.out]; simp; omega
      have e1 : (base != 0) = true := by simpa using b0
      have e2 : (base != 1) = true := by simpa using b1
      subst e
      clear HBD
      go_wp2
      go_meet
      exact ⟨rfl, rfl⟩
  case rest =>
  obtain ⟨rfl, e⟩ := hcut
  have e := e.symm
  subst e
  rcases bd with _ | _
  case true =>
    clear h h2 HCM HK3 HN HN2 HBD
    go_wp2_with (go_at_call 18; refine (awake17_ok _).mono ?_; rintro r1 w1 ⟨rfl, b1⟩)
    go_ret
    exact ⟨rfl, b1⟩
  have hbb : (base = 0 ∨ base = 1) ∧ n ≤ 2000 := by
    have := of_decide_eq_false HBD.out
    omega
  obtain ⟨hb, h20⟩ := hbb
  have HB := Lib.hid hb
  have CM := HCM.out h20
  clear HBD HCM hb
  go_wp2_with fail
  refine CM.mono ?_
  rintro r1 w1 ⟨mg, rfl, IM, b1⟩
  clear CM
  have a1 : Aft w w1 := b1
  obtain ⟨B, hB⟩ : ∃ B, w1.heap.size = B := ⟨_, rfl⟩
  have hBw : w.heap.size ≤ B := by have := b1.size; omega
  have HBS := Lib.hid hB
  have hmg := (IM.at_).2.2.2.2.1
  clear hB
  go_upto_region 8 with (fail)
  go_wp2_with fail
  go_loopg [10, 11, 12] n (fun gk dv bv iv wr => ∃ i : Nat, i + gk = n ∧ iv = .int .i64 i ∧ dv = .int .i64 (opN l i) ∧ Ints wr B 3 .i64 bv (bgT l i) ∧ Aft w1 wr)
  case atStart => exact ⟨0, by omega, rfl, rfl, Ints.nil _ _ _ _, Aft.refl _⟩
  case round =>
    obtain ⟨i, hi, rfl, rfl, I, t⟩ := hrel
    have HI := Lib.hid hi
    clear hi
    by_cases hlt : i < n
    · obtain ⟨lb, lo, rfl, _, lb2, kl⟩ := (h.aft (a1.trans t)).at_ (i := i) (by have := HN.out; omega)
      obtain ⟨_, _, e1, _, _, km⟩ := (IM.rd.aft t).at_ (i := i) (by have := HK3.out; omega)
      cases e1
      rw [Nat.zero_add] at km
      have hO : opN l (i + 1) = if opC (l.getD i 0) = true then opN l i + 1 else opN l i := rfl
      have hG : bgT l (i + 1) = if bgC l i = true then bgT l i ++ [(i : Int)] else bgT l i := rfl
      have hC : bgC l i = ((!innC (l.getD i 0) && decide ((matchL l).getD i 0 > (i : Int))) && decide ((matchL l).getD i 0 < (l.length : Int))) := rfl
      rw [← HN.out] at hC
      have hol := opN_le l i
      have hgl := bgT_len l i
      obtain ⟨x, hx⟩ : ∃ x, l.getD i 0 = x := ⟨_, rfl⟩
      obtain ⟨y, hy⟩ : ∃ y, (matchL l).getD i 0 = y := ⟨_, rfl⟩
      rw [hx] at kl hO hC
      rw [hy] at km hC
      obtain ⟨o, ho⟩ : ∃ o, opN l i = o := ⟨_, rfl⟩
      rw [ho] at hO hol
      have HO := Lib.hid hO
      have HG := Lib.hid hG
      have HC := Lib.hid hC
      have HOL := Lib.hid ho
      clear hO hG hC hx hy
      rw [ho]
      clear ho
      go_upto_block 2 with (fail)
      go_cut [10] from 56 to 69 (fun dv wx => dv = .int .i64 (opN l (i + 1)) ∧ wx = wr)
      case first =>
        clear HG HC HOL HB HN HN2 HK3 HI HBS I km hgl
        by_cases q15 : x = 15
        · subst q15
          go_wp2
          go_meet
          exact ⟨by rw [HO.out]; rfl, rfl⟩
        have r15 : (x == 15) = false := by simpa using q15
        by_cases q17 : x = 17
        · subst q17
          go_wp2
          go_meet
          exact ⟨by rw [HO.out]; rfl, rfl⟩
        have r17 : (x == 17) = false := by simpa using q17
        by_cases q16 : x = 16
        · subst q16
          go_wp2
          go_meet
          exact ⟨by rw [HO.out]; rfl, rfl⟩
        have r16 : (x == 16) = false := by simpa using q16
        by_cases q18 : x = 18
        · subst q18
          go_wp2
          go_meet
          exact ⟨by rw [HO.out]; rfl, rfl⟩
        have r18 : (x == 18) = false := by simpa using q18
        by_cases q20 : x = 20
        · subst q20
          go_wp2
          go_meet
          exact ⟨by rw [HO.out]; rfl, rfl⟩
        have r20 : (x == 20) = false := by simpa using q20
        by_cases q21 : x = 21
        · subst q21
          go_wp2
          go_meet
          exact ⟨by rw [HO.out]; rfl, rfl⟩
        have r21 : (x == 21) = false := by simpa using q21
        by_cases q22 : x = 22
        · subst q22
          go_wp2
          go_meet
          exact ⟨by rw [HO.out]; rfl, rfl⟩
        have r22 : (x == 22) = false := by simpa using q22
        have ho2 : opC x = false := by unfold opC; rw [r15, r16, r17, r18, r20, r21, r22]; rfl
        have HO2 := Lib.hid ho2
        clear ho2
        go_wp2
        go_meet
        exact ⟨by rw [HO.out, HO2.out]; rfl, rfl⟩
      case rest =>
      obtain ⟨rfl, e⟩ := hcut
      have e := e.symm
      subst e
      have hin := fun (W : World) => inner_ok W x
      rcases hx1 : innC x with _ | _
      all_goals rw [hx1] at hin
      case true =>
        have hb0 : bgC l i = false := by rw [HC.out, hx1]; rfl
        have HB0 := Lib.hid hb0
        clear hb0 hx1
        go_wp2_with (go_at_call 23; refine (hin _).mono ?_; rintro r7 w7 ⟨rfl, rfl⟩)
        go_roundg (n - (i + 1))
        case rel => exact ⟨i + 1, by have := HI.out; omega, by go_num, rfl, by rw [HG.out, HB0.out, if_neg (by simp)]; exact I, t⟩
        case measure => have := HI.out; omega
      case false =>
        rcases hx2 : decide (y > (i : Int)) with _ | _
        · have hb0 : bgC l i = false := by rw [HC.out, hx1, hx2]; rfl
          have HB0 := Lib.hid hb0
          clear hb0 hx1
          go_wp2_with (go_at_call 23; refine (hin _).mono ?_; rintro r7 w7 ⟨rfl, rfl⟩)
          go_roundg (n - (i + 1))
          case rel => exact ⟨i + 1, by have := HI.out; omega, by go_num, rfl, by rw [HG.out, HB0.out, if_neg (by simp)]; exact I, t⟩
          case measure => have := HI.out; omega
        · rcases hx3 : decide (y < (n : Int)) with _ | _
          · have hb0 : bgC l i = false := by rw [HC.out, hx1, hx2, hx3]; rfl
            have HB0 := Lib.hid hb0
            clear hb0 hx1
            go_wp2_with (go_at_call 23; refine (hin _).mono ?_; rintro r7 w7 ⟨rfl, rfl⟩)
            go_roundg (n - (i + 1))
            case rel => exact ⟨i + 1, by have := HI.out; omega, by go_num, rfl, by rw [HG.out, HB0.out, if_neg (by simp)]; exact I, t⟩
            case measure => have := HI.out; omega
          · have hb0 : bgC l i = true := by rw [HC.out, hx1, hx2, hx3]; rfl
            have HB0 := Lib.hid hb0
            have HGL := Lib.hid hgl
            clear hb0 hx1 hgl
            have htl := t.le
            go_wp2_with (first
              | (go_at_call 23; refine (hin _).mono ?_; rintro r7 w7 ⟨rfl, rfl⟩)
              | (at_builtin; go_must (refine wpList_appI ei24 rfl rfl rfl (I.alloc _) rfl (Blk.at_ (by simp)) ?_ ?_ ?_ ?_)))
            · have := HGL.out; unfold maxLen; omega
            · have := HGL.out; omega
            · have := HBS.out; simp; omega
            intro g cap w8 I8 g8 hg8
            go_wp2
            go_roundg (n - (i + 1))
            case rel => exact ⟨i + 1, by have := HI.out; omega, by go_num, rfl, by rw [HG.out, HB0.out, if_pos rfl]; exact I8, (t.alloc _).grown g8 (fun k hk => by have := (I.lt k hk).1; have := HBS.out; omega)⟩
            case measure => have := HI.out; omega
    · have hie : n = i := by have := HI.out; omega
      subst hie
      clear HI hlt
      obtain ⟨bA, bc, hbv, -, -, rb⟩ := I.val
      subst hbv
      obtain ⟨nb, hnb⟩ : ∃ nb, (bgT l n).length = nb := ⟨_, rfl⟩
      rw [hnb] at I
      have hnb2 : nb ≤ 2000 := by have := bgT_len l n; omega
      have HNB := Lib.hid hnb
      rw [hnb]
      clear hnb
      by_cases h0 : nb = 0
      · subst h0
        go_wp2_with (go_at_call 18; refine (awake17_ok _).mono ?_; rintro r9 w9 ⟨rfl, b9⟩)
        go_ret
        exact ⟨rfl, (a1.trans t).trans b9⟩
      have h0b : ((nb : Int) == 0) = false := by simp; omega
      have h0c : ((nb : Int)) ≠ 0 := by omega
      clear I
      obtain ⟨q, hq⟩ : ∃ q, which.tmod (nb : Int) = q := ⟨_, rfl⟩
      have hqb : q.natAbs < nb := by
        rw [← hq, Int.natAbs_tmod, Int.natAbs_natCast]
        exact Nat.mod_lt _ (by omega)
      go_upto_region 25 with (fail)
      clear hq
      go_upto_if 106 with (fail)
      go_cut [3] from 107 to 108 (fun pv wx => ∃ p : Nat, pv = .int .i64 p ∧ p < nb ∧ wx = wr)
      case first =>
        clear HN HN2 HB HBS HNB HK3 rb h h2 IM a1 b1 t
        by_cases hq0 : q < 0
        · have hq1 : -9223372036854775808 < q := by omega
          go_wp2
          go_meet
          refine ⟨q.natAbs, ?_, hqb, rfl⟩
          go_num
        · go_wp2
          go_meet
          refine ⟨q.natAbs, ?_, hqb, rfl⟩
          go_num
      case rest =>
      obtain ⟨p, rfl, hp, e⟩ := hcut
      have e := e.symm
      subst e
      clear hqb h0b h0c
      obtain ⟨W1, rfl⟩ : ∃ W1, W1 = wr := ⟨_, rfl⟩
      have hpm : (bgT l n).getD p 0 ∈ bgT l n := getD_mem0 _ (by have := HNB.out; omega)
      obtain ⟨a, ea, la, ha⟩ := bgT_mem hpm
      obtain ⟨en, hbg, hma, hae, hel⟩ := bgC_spec (by have := HN.out; omega) ha
      have hei : en < n := by have := HN.out; omega
      have HBG := Lib.hid hbg
      have HMA := Lib.hid hma
      clear hpm ha hbg
      obtain ⟨pb, po, e1, _, _, kp⟩ := rb.at_ (i := p) (by have := HNB.out; omega)
      subst e1
      rw [ea] at kp
      obtain ⟨_, _, e1, _, _, km⟩ := (IM.rd.aft t).at_ (i := a) (by have := HK3.out; omega)
      cases e1
      rw [Nat.zero_add, hma] at km
      clear hma ea hel
      go_upto_region 29 with (fail)
      have a2 := a1.trans t
      go_wp2_with (at_builtin; go_must (refine wpList_appIs ei22 rfl rfl rfl (Ints.nil _ W1.heap.size 28 .u8) HN.out rfl (h.aft a2) ?_ ?_ ?_ ?_))
      · have := HN.out; unfold maxLen; omega
      · have := HN.out; omega
      intro v9 w9 I9 g9 hv9
      have I9 : Ints w9 W1.heap.size 28 .u8 v9 l := I9
      have t9 : Aft W1 w9 := Aft.of_grown g9
      obtain ⟨xg, xc, hv9'⟩ : ∃ g cap, v9 = .slice (some ⟨g, 0, none⟩) n cap := by
        rcases I9.cases' with ⟨_, h0⟩ | ⟨g, cap, h0⟩
        · exfalso
          have := HN.out
          rw [h0] at this
          simp at this
          omega
        · exact ⟨g, cap, by rw [h0, HN.out]⟩
      subst hv9'
      obtain ⟨D, hD⟩ : ∃ D, W1.heap.size = D := ⟨_, rfl⟩
      rw [hD] at I9
      have HD := Lib.hid hD
      have hopl := opN_le l n
      clear hv9 g9 hD
      have M0 : MidL l l a (a + 1 + 0) (opN l n) := by
        have hl := HN.out
        exact ⟨rfl, fun _ _ => rfl, fun _ => .inl rfl, by rw [← hl]; exact Nat.le_refl _, by rw [← hl]; exact Nat.le_refl _, by omega⟩
      have HM0 := Lib.hid M0
      clear M0
      go_upto_block 3 with (fail)
      go_cut [10, 16, 17] from 121 to 163 (fun dv _ _ wx => ∃ (mm : List Int) (dd : Nat), dv = .int .i64 dd ∧ Ints wx D 28 .u8 (.slice (some ⟨xg, 0, none⟩) n xc) mm ∧ Aft W1 wx ∧ MidL l mm a en dd)
      case first =>
       clear HNB HB
       go_wp2
       go_loopg [10, 16, 17] (en - (a + 1)) (fun gk dv iv kv wz => ∃ (j : Nat) (mm : List Int) (dd : Nat), j + gk = en - (a + 1) ∧ iv = .int .i64 ((a + 1 + j : Nat) : Int) ∧ kv = .int .i64 j ∧ dv = .int .i64 dd ∧
         Ints wz D 28 .u8 (.slice (some ⟨xg, 0, none⟩) n xc) mm ∧ Aft W1 wz ∧ MidL l mm a (a + 1 + j) dd)
       case atStart => exact ⟨0, l, opN l n, by omega, by go_num, rfl, rfl, I9, t9, HM0.out⟩
       case round =>
         obtain ⟨j, mm, dd, hj, rfl, rfl, rfl, I, tz, hM⟩ := hrel
         have HJ := Lib.hid hj
         have HM := Lib.hid hM
         have hd3 := hM.d3
         rw [← HN.out] at hd3
         clear hj hM
         by_cases hlt : a + 1 + j < en
         · have hlt2 : decide ((((a + 1 + j : Nat) : Int)) < (en : Int)) = true := by simp; omega
           by_cases hlo : j < n2
           · have hlo2 : decide ((j : Int) < (n2 : Int)) = true := by simp; omega
             have hmn : mm.length = n := by rw [HM.out.len, HN.out]
             have HMN := Lib.hid hmn
             clear hmn
             obtain ⟨-, -, -, -, xl, xf, xcell⟩ := I.at_
             have kx := xcell (a + 1 + j) (by have := HMN.out; omega)
             obtain ⟨ob, oo, rfl, _, _, ko⟩ := (h2.aft (a2.trans tz)).at_ (i := j) (by have := HN2.out; omega)
             obtain ⟨x, hx⟩ : ∃ x, mm.getD (a + 1 + j) 0 = x := ⟨_, rfl⟩
             obtain ⟨y, hy⟩ : ∃ y, other.getD j 0 = y := ⟨_, rfl⟩
             rw [hx] at kx
             rw [hy] at ko
             have hix := fun (W : World) => inner_ok W x
             have hiy := fun (W : World) => inner_ok W y
             have hput : innC x = true → innC y = true → MidL l (mm.set (a + 1 + j) y) a (a + 1 + j + 1) (dd + (if opC y = true then 1 else 0)) := fun h3 h4 =>
               HM.out.put (by omega) (by have := HN.out; omega) (by rw [hx]; exact h3) h4
             have HPUT := Lib.hid hput
             clear hput hx hy xcell
             rcases hx1 : innC x with _ | _
             all_goals rw [hx1] at hix
             case false =>
               clear hx1
               go_wp2_with (go_at_call 23; refine (hix _).mono ?_; rintro r7 w7 ⟨rfl, rfl⟩)
               go_roundg (en - (a + 1) - (j + 1))
               case rel => exact ⟨j + 1, mm, dd, by have := HJ.out; omega, by go_num, by go_num, rfl, I, tz, HM.out.next⟩
               case measure => have := HJ.out; omega
             case true =>
             rcases hy1 : innC y with _ | _
             all_goals rw [hy1] at hiy
             case false =>
               clear hx1 hy1
               go_wp2_with (first
                 | (go_at_call_of 23 x; refine (hix _).mono ?_; rintro r7 w7 ⟨rfl, rfl⟩)
                 | (go_at_call_of 23 y; refine (hiy _).mono ?_; rintro r8 w8 ⟨rfl, rfl⟩))
               go_roundg (en - (a + 1) - (j + 1))
               case rel => exact ⟨j + 1, mm, dd, by have := HJ.out; omega, by go_num, by go_num, rfl, I, tz, HM.out.next⟩
               case measure => have := HJ.out; omega
             case true =>
               have hput := HPUT.out hx1 hy1
               have hyi : y ≠ 20 ∧ y ≠ 21 ∧ y ≠ 22 := by
                 refine ⟨?_, ?_, ?_⟩ <;> (rintro rfl; cases hy1)
               have HYI := Lib.hid hyi
               have HPUT := Lib.hid hput
               clear hput hyi hx1 hy1
               go_upto_region 34 with (first
                 | (go_at_call_of 23 x; refine (hix _).mono ?_; rintro r7 w7 ⟨rfl, rfl⟩)
                 | (go_at_call_of 23 y; refine (hiy _).mono ?_; rintro r8 w8 ⟨rfl, rfl⟩))
               have I8 := I.set (a + 1 + j) y
               have hxD := (I.lt xg rfl).1
               have t8 : Aft W1 (wr.setCell ⟨xg, a + 1 + j, none⟩ (.int .u8 y)) := tz.set (by have := HD.out; omega) _
               have hne : ob ≠ xg := by have := HD.out; have := a2.le; omega
               have ko8 : (wr.setCell ⟨xg, a + 1 + j, none⟩ (.int .u8 y)).cell? ⟨ob, oo + j, none⟩ = some (.int .u8 y) := by
                 rw [World.cell?_setCell_other _ _ _ _ (by intro h; injection h with h; first | exact hne h | exact hne h.symm)]; exact ko
               go_upto_region 35 with (fail)
               generalize wr.setCell ⟨xg, a + 1 + j, none⟩ (.int .u8 y) = W8 at *
               clear ko kx xl xf I tz
               go_upto_block 5 with (fail)
               obtain ⟨d8, hd8⟩ : ∃ d8, dd + (if opC y = true then 1 else 0) = d8 := ⟨_, rfl⟩
               have HD8 := Lib.hid hd8
               rw [hd8] at HPUT
               clear hd8
               by_cases q15 : y = 15
               · subst q15
                 go_wp2
                 go_roundg (en - (a + 1) - (j + 1))
                 case rel => exact ⟨j + 1, mm.set (a + 1 + j) 15, d8, by have := HJ.out; omega, by go_num, by go_num, by rw [← HD8.out]; rfl, I8, t8, HPUT.out⟩
                 case measure => have := HJ.out; omega
               have r15 : (y == 15) = false := by simpa using q15
               by_cases q17 : y = 17
               · subst q17
                 go_wp2
                 go_roundg (en - (a + 1) - (j + 1))
                 case rel => exact ⟨j + 1, mm.set (a + 1 + j) 17, d8, by have := HJ.out; omega, by go_num, by go_num, by rw [← HD8.out]; rfl, I8, t8, HPUT.out⟩
                 case measure => have := HJ.out; omega
               have r17 : (y == 17) = false := by simpa using q17
               by_cases q16 : y = 16
               · subst q16
                 go_wp2
                 go_roundg (en - (a + 1) - (j + 1))
                 case rel => exact ⟨j + 1, mm.set (a + 1 + j) 16, d8, by have := HJ.out; omega, by go_num, by go_num, by rw [← HD8.out]; rfl, I8, t8, HPUT.out⟩
                 case measure => have := HJ.out; omega
               have r16 : (y == 16) = false := by simpa using q16
               by_cases q18 : y = 18
               · subst q18
                 go_wp2
                 go_roundg (en - (a + 1) - (j + 1))
                 case rel => exact ⟨j + 1, mm.set (a + 1 + j) 18, d8, by have := HJ.out; omega, by go_num, by go_num, by rw [← HD8.out]; rfl, I8, t8, HPUT.out⟩
                 case measure => have := HJ.out; omega
               have r18 : (y == 18) = false := by simpa using q18
               have hop : opC y = false := by
                 have hy20 : (y == 20) = false := by simpa using HYI.out.1
                 have hy21 : (y == 21) = false := by simpa using HYI.out.2.1
                 have hy22 : (y == 22) = false := by simpa using HYI.out.2.2
                 unfold opC; rw [r15, r16, r17, r18, hy20, hy21, hy22]; rfl
               have HOP := Lib.hid hop
               clear hop
               go_wp2
               go_roundg (en - (a + 1) - (j + 1))
               case rel => exact ⟨j + 1, mm.set (a + 1 + j) y, d8, by have := HJ.out; omega, by go_num, by go_num, by rw [← HD8.out, HOP.out]; rfl, I8, t8, HPUT.out⟩
               case measure => have := HJ.out; omega
           · go_wp2
             go_meet
             exact ⟨mm, dd, rfl, I, tz, HM.out.mono (by omega)⟩
         · have hje : a + 1 + j = en := by have := HJ.out; omega
           go_wp2
           go_meet
           exact ⟨mm, dd, rfl, I, tz, HM.out.mono (by omega)⟩
      case rest =>
      obtain ⟨mm, dd, rfl, I, tz, hM⟩ := hcut
      obtain ⟨W2, rfl⟩ : ∃ W2, W2 = wc := ⟨_, rfl⟩
      have HM := Lib.hid hM
      have a3 := a2.trans tz
      obtain ⟨lb, lo, rfl, _, lb2, kl⟩ := (h.aft a3).at_ (i := a) (by have := HN.out; omega)
      obtain ⟨c0, hc0⟩ : ∃ c0, l.getD a 0 = c0 := ⟨_, rfl⟩
      rw [hc0] at kl
      clear hM hc0 km kp HNB I9
      by_cases hd60 : 60 < dd
      · have e1 : decide ((dd : Int) > 60) = true := by simp; omega
        go_wp2_with (go_at_call 18; refine (awake17_ok _).mono ?_; rintro r9 w9 ⟨rfl, b9⟩)
        go_ret
        exact ⟨rfl, a3.trans b9⟩
      have e60 : decide ((dd : Int) > 60) = false := by simp; omega
      have hd60' : ¬ ((dd : Int) > 60) := by omega
      by_cases h22 : c0 = 22
      · subst h22
        go_wp2_with (go_at_call 18; refine (awake17_ok _).mono ?_; rintro r9 w9 ⟨rfl, b9⟩)
        go_ret
        exact ⟨rfl, a3.trans b9⟩
      have e22 : (c0 == 22) = false := by simpa using h22
      clear h22
      go_wp2
      go_loopg [18] a (fun gk iv wz => ∃ j : Nat, j + gk = a ∧ iv = .int .i64 j ∧ wz = W2)
      case atStart => exact ⟨0, by omega, rfl, rfl⟩
      case round =>
        obtain ⟨j, hj, rfl, rfl⟩ := hrel
        have HJ := Lib.hid hj
        clear hj
        by_cases hlj : j < a
        · obtain ⟨_, _, e1, _, _, kj⟩ := (h.aft a3).at_ (i := j) (by have := HN.out; omega)
          cases e1
          obtain ⟨_, _, e1, _, _, kmj⟩ := (IM.rd.aft (t.trans tz)).at_ (i := j) (by have := HK3.out; omega)
          cases e1
          rw [Nat.zero_add] at kmj
          obtain ⟨x, hx⟩ : ∃ x, l.getD j 0 = x := ⟨_, rfl⟩
          obtain ⟨y, hy⟩ : ∃ y, (matchL l).getD j 0 = y := ⟨_, rfl⟩
          rw [hx] at kj
          rw [hy] at kmj
          clear hx hy
          by_cases hx22 : x = 22
          · subst hx22
            by_cases hya : y > (a : Int)
            · have e1 : decide (y > (a : Int)) = true := by simpa using hya
              go_wp2_with (go_at_call 18; refine (awake17_ok _).mono ?_; rintro r9 w9 ⟨rfl, b9⟩)
              go_ret
              exact ⟨rfl, a3.trans b9⟩
            · have e1 : decide (y > (a : Int)) = false := by simpa using hya
              go_wp2
              go_roundg (a - (j + 1))
              case rel => exact ⟨j + 1, by have := HJ.out; omega, by go_num, rfl⟩
              case measure => have := HJ.out; omega
          · have e2 : (x == 22) = false := by simpa using hx22
            clear hx22
            go_wp2
            go_roundg (a - (j + 1))
            case rel => exact ⟨j + 1, by have := HJ.out; omega, by go_num, rfl⟩
            case measure => have := HJ.out; omega
        · have hje : a = j := by have := HJ.out; omega
          subst hje
          clear HJ hlj
          have hll : l.length = mm.length := HM.out.len.symm
          have hmn : n = mm.length := by rw [← hll]; exact HN.out
          have HW := within_ok HB.out hll (by have := HN.out; omega) HBG.out HMA.out (by have := HN.out; omega) HM.out.out HM.out.inn (by have := HM.out.d1; omega) (by rw [← hll]; have := HM.out.d2; omega)
          obtain ⟨s1, hs1, hs1a⟩ := HW.1
          obtain ⟨s2, hs2, hs2a⟩ := HW.2.1
          have hS1 := exS_small HB.out l
          have hS2 := exS_small HB.out mm
          rw [← HN.out] at hS1
          rw [← hmn] at hS2
          have hp1 : 0 < (exS base l).length := List.length_pos_of_mem hs1
          have hp2 : 0 < (exS base mm).length := List.length_pos_of_mem hs2
          have CX : ∀ W, Aft wr W → Calls Try.prog 19 #[.int .i8 base, .slice (some ⟨lb, lo, none⟩) n c] W fun r w' => ∃ lA lc cA cc mA mc g5 c5, r = .returned (.tuple #[.agg #[.slice lA n lc, .slice cA n cc, .slice mA n mc], .slice (some ⟨g5, 0, none⟩) (exS base l).length c5, .bool true]) ∧ HasRow w' g5 (exS base l) ∧ Aft W w' := by
            intro W hW
            refine (explicit_ok HB.out HN.out (h.aft (a3.trans hW)) (a3.trans hW).le (by omega)).mono ?_
            rintro r w' ⟨lA, lc, cA, cc, mA, mc, ov, rfl, -, -, SO, b⟩
            obtain ⟨g5, c5, rfl, R5⟩ := hasRow_of SO hp1
            exact ⟨lA, lc, cA, cc, mA, mc, g5, c5, rfl, R5, b⟩
          have CY : ∀ W, Aft wr W → Calls Try.prog 19 #[.int .i8 base, .slice (some ⟨xg, 0, none⟩) n xc] W fun r w' => ∃ lA lc cA cc mA mc g5 c5, r = .returned (.tuple #[.agg #[.slice lA n lc, .slice cA n cc, .slice mA n mc], .slice (some ⟨g5, 0, none⟩) (exS base mm).length c5, .bool true]) ∧ HasRow w' g5 (exS base mm) ∧ Aft W w' := by
            intro W hW
            refine (explicit_ok HB.out hmn (I.rd.aft hW) hW.le (by omega)).mono ?_
            rintro r w' ⟨lA, lc, cA, cc, mA, mc, ov, rfl, -, -, SO, b⟩
            obtain ⟨g5, c5, rfl, R5⟩ := hasRow_of SO hp2
            exact ⟨lA, lc, cA, cc, mA, mc, g5, c5, rfl, R5, b⟩
          have hL1 : ∀ s ∈ exS base l, s.pl.length ≤ 4000 := fun s hs => by have := hS1.2 s hs; omega
          have hL2 : ∀ s ∈ exS base mm, s.pl.length ≤ 4000 := fun s hs => by have := hS2.2 s hs; omega
          have hq1 := hS1.1
          have hK : ∀ s ∈ exS base l, s.cs.length ≤ 4000 := fun s hs => by have := hS1.2 s hs; have := ((each_ok HB.out l).place s hs).2.1; omega
          have hq2 := hS2.1
          have hE : ∀ s ∈ exS base l, ∀ t ∈ exS base mm, (a : Int) ∈ s.pl → (a : Int) ∈ t.pl → s = t ∧ (en : Int) ∈ s.pl := HW.2.2
          have hx1 : ∃ s ∈ exS base l, (a : Int) ∈ s.pl := HW.1
          have hx2 : ∃ s ∈ exS base mm, (a : Int) ∈ s.pl := HW.2.1
          clear HW hs1 hs1a hs2 hs2a s1 s2 hS1 hS2 hp1 hp2 hll hmn
          generalize exS base l = ss at *
          generalize exS base mm = tt at *
          obtain ⟨m1, hm1⟩ : ∃ m1, ss.length = m1 := ⟨_, rfl⟩
          obtain ⟨m2, hm2'⟩ : ∃ m2, tt.length = m2 := ⟨_, rfl⟩
          rw [hm1] at CX hq1
          rw [hm2'] at CY hq2
          have HM1 := Lib.hid hm1
          have HM2 := Lib.hid hm2'
          have HE := Lib.hid hE
          have HX1 := Lib.hid hx1
          have HX2 := Lib.hid hx2
          have HL1 := Lib.hid hL1
          have HK := Lib.hid hK
          have HL2 := Lib.hid hL2
          have HCY := Lib.hid CY
          clear hm1 hm2' hE hx1 hx2 hL1 hL2 hK kl CY
          go_upto_region 48 with (fail)
          go_wp2_with fail
          refine (CX _ (Aft.refl wr)).mono ?_
          rintro r5 w5 ⟨lA, lc, cA, cc, mA, mc, g5, c5, rfl, R5, t5⟩
          have Z := Blk.new w5 40 #[.slice none 0 0, .slice none 0 0, .slice none 0 0]
          obtain ⟨z0, z1, z2, zf, zl⟩ := Z.c3
          go_upto_region 49 with (fail)
          have t6 := t5.alloc (.cells #[.slice lA n lc, .slice cA n cc, .slice mA n mc] 40)
          have R6 := R5.aft ((Aft.refl w5).alloc (.cells #[.slice lA n lc, .slice cA n cc, .slice mA n mc] 40))
          generalize w5.alloc (.cells #[.slice lA n lc, .slice cA n cc, .slice mA n mc] 40) = W6 at *
          generalize w5.heap.size = y5 at *
          clear z0 z1 z2 zf zl Z R5 t5 CX
          have CY := HCY.out
          go_wp2_with fail
          refine (CY _ t6).mono ?_
          rintro r7 w7 ⟨lA', lc', cA', cc', mA', mc', g7, c7, rfl, R7, t7⟩
          have R6' := R6.aft t7
          have t7' := t6.trans t7
          have Z := Blk.new w7 40 #[.slice none 0 0, .slice none 0 0, .slice none 0 0]
          obtain ⟨z0, z1, z2, zf, zl⟩ := Z.c3
          go_upto_region 50 with (fail)
          have t8 := t7'.alloc (.cells #[.slice lA' n lc', .slice cA' n cc', .slice mA' n mc'] 40)
          have R8 := R6'.aft ((Aft.refl w7).alloc (.cells #[.slice lA' n lc', .slice cA' n cc', .slice mA' n mc'] 40))
          have Q8 := R7.aft ((Aft.refl w7).alloc (.cells #[.slice lA' n lc', .slice cA' n cc', .slice mA' n mc'] 40))
          generalize w7.alloc (.cells #[.slice lA' n lc', .slice cA' n cc', .slice mA' n mc'] 40) = W8 at *
          generalize w7.heap.size = y7 at *
          clear z0 z1 z2 zf zl Z R7 R6 R6' t7 t7' t6 CY HCY
          go_wp2_with fail
          refine (has_ok2 (a := a) HM1.out.symm R8 HX1.out HL1.out (by omega)).mono ?_
          rintro r9 w9 ⟨pl, cs, slv, so, eo, pA, pc, CA, cc9, hs, hsa, rfl, rp, rc, b9⟩
          have HS := Lib.hid hs
          have HSA := Lib.hid hsa
          have hpl := HL1.out _ hs
          simp only at hpl
          obtain ⟨np, hnp⟩ : ∃ np, pl.length = np := ⟨_, rfl⟩
          obtain ⟨nc, hnc⟩ : ∃ nc, cs.length = nc := ⟨_, rfl⟩
          rw [hnp] at hpl
          rw [hnp, hnc]
          have HNP := Lib.hid hnp
          have HNC := Lib.hid hnc
          have HCL := Lib.hid (show cs.length ≤ 4000 from by have := HK.out _ hs; simp only at this; omega)
          have t9 := t8.trans b9
          have Q9 := Q8.aft b9
          clear hnp hnc hs hsa Q8 R8 b9 t8
          have Z := Blk.new w9 35 #[.slice none 0 0, .slice none 0 0, .int .i8 0, .int .u8 0, .int .u8 0]
          obtain ⟨z0, z1, z2, z3, z4, zf, zl⟩ := Z.c5
          have Y := Blk.new w9 35 #[.slice pA np pc, .slice CA nc cc9, .int .i8 slv, .int .u8 so, .int .u8 eo]
          have aY := (Aft.refl w9).alloc (.cells #[.slice pA np pc, .slice CA nc cc9, .int .i8 slv, .int .u8 so, .int .u8 eo] 35)
          go_upto_region 51 with (fail)
          have t10 := t9.trans aY
          have Q10 := Q9.aft aY
          have rp10 := (rp.aft aY).more aY.le
          have rc10 := (rc.aft aY).more aY.le
          generalize w9.alloc (.cells #[.slice pA np pc, .slice CA nc cc9, .int .i8 slv, .int .u8 so, .int .u8 eo] 35) = W10 at *
          generalize w9.heap.size = y9 at *
          clear z0 z1 z2 z3 z4 zf zl Z Q9 rp rc t9 aY
          go_wp2_with fail
          refine (has_ok2 (a := a) HM2.out.symm Q10 HX2.out HL2.out (by omega)).mono ?_
          rintro r11 w11 ⟨pl2, cs2, slv2, so2, eo2, pA2, pc2, CA2, cc11, hs2, hsa2, rfl, rp11, rc11, b11⟩
          obtain ⟨heq, hen⟩ := HE.out _ HS.out _ hs2 HSA.out hsa2
          injection heq with e1 e2 e3 e4 e5
          subst e1 e2 e3 e4 e5
          rw [HNP.out, HNC.out]
          simp only at hen
          have HEN := Lib.hid hen
          have t11 := t10.trans b11
          have Y11 := Y.aft b11
          have rp11b := (rp10.aft b11).more (Aft.le b11)
          have rc11b := (rc10.aft b11).more (Aft.le b11)
          clear hen hs2 hsa2 rp10 rc10 Y t10 Q10 b11
          have Z := Blk.new w11 35 #[.slice none 0 0, .slice none 0 0, .int .i8 0, .int .u8 0, .int .u8 0]
          obtain ⟨z0, z1, z2, z3, z4, zf, zl⟩ := Z.c5
          have X := Blk.new w11 35 #[.slice pA2 np pc2, .slice CA2 nc cc11, .int .i8 slv, .int .u8 so, .int .u8 eo]
          have aY := (Aft.refl w11).alloc (.cells #[.slice pA2 np pc2, .slice CA2 nc cc11, .int .i8 slv, .int .u8 so, .int .u8 eo] 35)
          go_upto_region 52 with (fail)
          have t12 := t11.trans aY
          have Y12 := Y11.aft aY
          have p12 := (rp11b.aft aY).more aY.le
          have c12 := (rc11b.aft aY).more aY.le
          have p12' := (rp11.aft aY).more aY.le
          have c12' := (rc11.aft aY).more aY.le
          generalize w11.alloc (.cells #[.slice pA2 np pc2, .slice CA2 nc cc11, .int .i8 slv, .int .u8 so, .int .u8 eo] 35) = W12 at *
          generalize w11.heap.size = y11 at *
          clear z0 z1 z2 z3 z4 zf zl Z Y11 rp11 rc11 rp11b rc11b t11 aY
          go_upto_region 54 with (fail)
          obtain ⟨y0, y1, y2, y3, y4, yf, yl⟩ := Y12.c5
          obtain ⟨x0, x1, x2, x3, x4, xf, xl⟩ := X.c5
          have aB := (Aft.refl W12).alloc (.cells #[.slice pA np pc, .slice CA nc cc9, .int .i8 slv, .int .u8 so, .int .u8 eo] 35)
          have RB := hasRow_one HNP.out HNC.out (Blk.new W12 35 #[.slice pA np pc, .slice CA nc cc9, .int .i8 slv, .int .u8 so, .int .u8 eo]) ((p12.aft aB).more aB.le) ((c12.aft aB).more aB.le)
          have hcs4 : nc ≤ 4000 := by rw [← HNC.out]; exact HCL.out
          have CS : ∀ W, Aft W12 W → Calls Try.prog 17 #[.agg #[.slice pA np pc, .slice CA nc cc9, .int .i8 slv, .int .u8 so, .int .u8 eo], .agg #[.slice pA2 np pc2, .slice CA2 nc cc11, .int .i8 slv, .int .u8 so, .int .u8 eo]] W fun r w' => r = .returned (.bool true) ∧ Aft W w' :=
            fun W hW => same_ok2 HNP.out HNC.out ((p12.aft hW).more hW.le) ((c12.aft hW).more hW.le) ((p12'.aft hW).more hW.le) ((c12'.aft hW).more hW.le) (by omega) (by omega)
          have t13 := t12.trans aB
          go_wp2_with fail
          refine (has_ok2 (a := en) (n := 1) rfl RB ⟨_, List.mem_singleton.2 rfl, HEN.out⟩ (fun s hs => by rw [List.mem_singleton.1 hs]; simp only; have := HNP.out; omega) (by omega)).mono ?_
          rintro r14 w14 ⟨pl3, cs3, slv3, so3, eo3, pA3, pc3, CA3, cc14, -, -, rfl, -, -, b14⟩
          have b13 := aB.trans b14
          have t14 := t13.trans b14
          have Y14 := (Y12.aft b13)
          have X14 := X.aft b13
          clear y0 y1 y2 y3 y4 yf yl x0 x1 x2 x3 x4 xf xl Y12 X RB aB p12 c12 p12' c12' b14 t13 t12
          have Z := Blk.new w14 35 #[.slice none 0 0, .slice none 0 0, .int .i8 0, .int .u8 0, .int .u8 0]
          obtain ⟨z0, z1, z2, z3, z4, zf, zl⟩ := Z.c5
          have aY := (Aft.refl w14).alloc (.cells #[.slice pA3 pl3.length pc3, .slice CA3 cs3.length cc14, .int .i8 slv3, .int .u8 so3, .int .u8 eo3] 35)
          go_upto_region 55 with (fail)
          have b15 := b13.trans aY
          have t15 := t14.trans aY
          have Y15 := Y14.aft aY
          have X15 := X14.aft aY
          generalize w14.alloc (.cells #[.slice pA3 pl3.length pc3, .slice CA3 cs3.length cc14, .int .i8 slv3, .int .u8 so3, .int .u8 eo3] 35) = W15 at *
          clear z0 z1 z2 z3 z4 zf zl Z Y14 X14 b13 t14 aY
          obtain ⟨y0, y1, y2, y3, y4, yf, yl⟩ := Y15.c5
          obtain ⟨x0, x1, x2, x3, x4, xf, xl⟩ := X15.c5
          go_wp2_with fail
          refine (CS _ b15).mono ?_
          rintro r16 w16 ⟨rfl, b16⟩
          go_wp2_with (go_at_call 18; refine (awake17_ok _).mono ?_; rintro r17 w17 ⟨rfl, b17⟩)
          go_ret
          exact ⟨rfl, (a3.trans (t15.trans b16)).trans b17⟩
end Go.Proofs.Ytpdackbcnbhppaa
