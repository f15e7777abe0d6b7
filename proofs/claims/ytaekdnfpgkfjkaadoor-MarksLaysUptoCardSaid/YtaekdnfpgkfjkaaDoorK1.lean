/- What is open: ends, embedded, isolated, all walked. -/
import Derived.Test.YtaekdnfpgkfjkaaDoorM1
namespace Go.Proofs.YtaekdnfpgkfjkaaDoor
open Go.RowKit
attribute [local go_sem] Oper.semAt_some

def endC (r : Int) : Bool := r == 10 || r == 13 || r == 28 || r == 29 || r == 30 || r == 133 || r == 8233
set_option maxRecDepth 100000 in
set_option maxHeartbeats 2000000 in
theorem ends_ok (w : World) (r : Int) : Calls Tryd.prog 51 #[.int .i32 r] w fun e w' => e = .returned (.bool (endC r)) ∧ w' = w := by
  go_enter Tryd.func51, Tryd.ntmps51
  go_wp2
  all_goals (go_ret; refine ⟨congrArg (fun z => Ending.returned (Value.bool z)) ?_, rfl⟩; simp only [beq_iff_eq, beq_eq_false_iff_ne, ne_eq] at *; rw [Bool.eq_iff_iff]; simp [endC]; omega)
set_option maxRecDepth 100000 in
set_option maxHeartbeats 2000000 in
theorem rEnds_ok (w : World) (r : Int) : Calls Tryd.prog 53 #[.int .i32 r] w fun e w' => e = .returned (.bool (endC r)) ∧ w' = w := by
  go_enter Tryd.func53, Tryd.ntmps53
  go_wp2
  all_goals (go_ret; refine ⟨congrArg (fun z => Ending.returned (Value.bool z)) ?_, rfl⟩; (try simp only [beq_iff_eq, beq_eq_false_iff_ne, ne_eq] at *); rw [Bool.eq_iff_iff]; simp [endC] <;> omega)

/-- What is open, and what is written. -/
structure OpAt (W : World) (ob : Nat) (lv p v : Value) (L : List Int) (out : List UInt8) : Prop where
  bld : Bld W (ob + 1) ob 1 106 #[lv, p, v] p v out
  row : Ints W (ob + 1) 21 .i32 lv L
theorem own_types {w : World} {B B' e e' sz sz' n n' : Nat} {v v' : Value} {xs xs' : List Value} (h : w.ownsRow B e sz v n xs) (h' : w.ownsRow B' e' sz' v' n' xs') (hne : e ≠ e') : ∀ j, v.ownBlock = some j → v'.ownBlock ≠ some j := by
  intro j hj hj'
  rcases h.2 with ⟨rfl, _⟩ | ⟨g, cap, cur, rfl, _, hg, _⟩
  · cases hj
  rcases h'.2 with ⟨rfl, _⟩ | ⟨g', cap', cur', rfl, _, hg', _⟩
  · cases hj'
  have e1 : g = j := by simpa [Value.ownBlock] using hj
  have e2 : g' = j := by simpa [Value.ownBlock] using hj'
  subst e1
  subst e2
  rw [hg] at hg'
  injection hg' with hg'
  injection hg' with _ h2 _
  exact hne h2
theorem OpAt.ne {W : World} {ob : Nat} {lv p v : Value} {L : List Int} {out : List UInt8} (h : OpAt W ob lv p v L out) : ∀ j, lv.ownBlock = some j → v.ownBlock ≠ some j := own_types h.row h.bld.own (by decide)
theorem OpAt.frm {W W' : World} {ob : Nat} {lv p v : Value} {L : List Int} {out : List UInt8} {F : Nat → Prop} (h : OpAt W ob lv p v L out) (hF : Frm F W W') (h0 : ¬ F ob) (h1 : ∀ j, lv.ownBlock = some j → ¬ F j) (h2 : ∀ j, v.ownBlock = some j → ¬ F j) : OpAt W' ob lv p v L out :=
  ⟨h.bld.frm hF h0 h2, own_frm h.row hF h1⟩
/-- Another row of what is open. -/
theorem OpAt.put {W : World} {ob : Nat} {lv lv' p v : Value} {L L' : List Int} {out : List UInt8} (h : OpAt W ob lv p v L out) (hr : Ints W (ob + 1) 21 .i32 lv' L') : OpAt (W.setCell ⟨ob, 0, none⟩ lv') ob lv' p v L' out ∧ Frm (fun j => j = ob) W (W.setCell ⟨ob, 0, none⟩ lv') := by
  have F := (Frm.refl (fun j => j = ob) W).set (b := ob) (j := 0) rfl lv'
  have hb := h.bld.blk.set_ 0 lv'
  refine ⟨⟨⟨by simpa using hb, rfl, rfl, h.bld.pk, own_frm h.bld.own F (fun j e h2 => ?_), h.bld.ne, h.bld.nl, by kernel_rfl⟩, own_frm hr F (fun j e h2 => ?_)⟩, F⟩
  · have := (h.bld.row e).1; omega
  · have := (hr.lt j e).1; omega
theorem Ints.cut0 {w : World} {B g n cap : Nat} {e : TypeId} {k : IntKind} {l : List Int} (h : Ints w B e k (.slice (some ⟨g, 0, none⟩) n cap) l) (j : Nat) (hj : j ≤ l.length) : Ints w B e k (.slice (some ⟨g, 0, none⟩) j cap) (l.take j) := by
  have hn : n = l.length := by
    rcases h.2 with ⟨h0, _⟩ | ⟨g', cap', cur, hv, _⟩
    · cases h0
    · injection hv
  subst hn
  rcases h.2 with ⟨h0, _⟩ | ⟨g', cap', cur, hv, k1, k2, k3, k4, k5, k6⟩
  · cases h0
  injection hv with hv1 _ hv3
  injection hv1 with hv1
  injection hv1 with hv1 _ _
  subst hv1 hv3
  have hl : (l.take j).length = j := by rw [List.length_take]; omega
  unfold Ints
  rw [hl]
  refine ⟨by simp; omega, .inr ⟨g, cap, cur, rfl, k1, k2, by omega, k4, k5, ?_⟩⟩
  rw [List.map_take, ← k6, List.take_take, Nat.mul_one, Nat.mul_one, Nat.min_eq_left hj]

/-- The last embedding ended. -/
def embL (L : List Int) : Option (List Int) := if L.getD (L.length - 1) 0 = 8236 ∧ L ≠ [] then some (L.take (L.length - 1)) else none
set_option maxRecDepth 100000 in
set_option maxHeartbeats 2000000 in
theorem embedded_ok {w : World} {ob : Nat} {lv p v : Value} {L : List Int} {out : List UInt8} (h : OpAt w ob lv p v L out) (hl : L.length ≤ 1099511627776) :
    Calls Tryd.prog 65 #[.pointer (some ⟨ob, 0, none⟩)] w fun e w' => ∃ lv', e = .returned (.bool (embL L).isSome) ∧ OpAt w' ob lv' p v ((embL L).getD L) out ∧ lv'.ownBlock = lv.ownBlock ∧ Frm (fun j => j = ob) w w' := by
  have hB := h.bld.blk
  obtain ⟨x0, x1, x2, xf, xl⟩ := hB.c3
  obtain ⟨A, cap, rfl, hca, hcb, hR⟩ := h.row.val
  obtain ⟨n, hn⟩ : ∃ n, L.length = n := ⟨_, rfl⟩
  rw [hn] at x0 h hl hca
  have HN := Lib.hid hn
  have hE : embL L = if L.getD (n - 1) 0 = 8236 ∧ L ≠ [] then some (L.take (n - 1)) else none := by rw [← hn]; rfl
  clear hn
  by_cases h0 : n = 0
  · have hL : L = [] := List.eq_nil_of_length_eq_zero (by have := HN.out; omega)
    have hE2 : embL L = none := by rw [hE, if_neg (by simp [hL])]
    rw [hE2]
    subst h0
    clear hE hE2
    go_enter Tryd.func65, Tryd.ntmps65
    go_wp2
    go_ret
    exact ⟨_, rfl, h, by rcases A with _ | A <;> rfl, Frm.refl _ _⟩
  · have hA : ∃ g, A = some ⟨g, 0, none⟩ := by
      rcases h.row.2 with ⟨e, _⟩ | ⟨g, c', cur, e, _⟩
      · injection e with _ e2 _; omega
      · injection e with e1 _ _; exact ⟨g, e1⟩
    obtain ⟨g, rfl⟩ := hA
    have hne : L ≠ [] := fun e => by have := HN.out; rw [e] at this; simp at this; omega
    obtain ⟨b', off, e1, _, hgl, kc⟩ := hR.at_ (i := n - 1) (by have := HN.out; omega)
    cases e1
    rw [Nat.zero_add] at kc
    obtain ⟨t, ht⟩ : ∃ t, L.getD (n - 1) 0 = t := ⟨_, rfl⟩
    rw [ht] at kc hE
    have hn1 : ((n : Int) - 1) = ((n - 1 : Nat) : Int) := by omega
    have hw1 : IntKind.i64.wrap ((n : Int) - 1) = ((n - 1 : Nat) : Int) := by rw [IntWalk.i64_in _ (by omega)]; omega
    have hlt : n - 1 < n := by omega
    rcases heq : (t != 8236) with _ | _
    · have ht2 : t = 8236 := by simpa using heq
      have hE2 : embL L = some (L.take (n - 1)) := by rw [hE, if_pos ⟨ht2, hne⟩]
      rw [hE2]
      have hcut := Ints.cut0 h.row (n - 1) (by have := HN.out; omega)
      have hput := h.put hcut
      have HP := Lib.hid hput
      clear hE hE2 hcut hput
      go_enter Tryd.func65, Tryd.ntmps65
      go_wp2
      all_goals (go_ret; exact ⟨_, rfl, HP.out.1, rfl, HP.out.2⟩)
    · have ht2 : t ≠ 8236 := by simpa using heq
      have hE2 : embL L = none := by rw [hE, if_neg (fun e => ht2 e.1)]
      rw [hE2]
      clear hE hE2
      go_enter Tryd.func65, Tryd.ntmps65
      go_wp2
      all_goals (go_ret; exact ⟨_, rfl, h, rfl, Frm.refl _ _⟩)

/-- The first n that may be ended by an isolate's end. -/
def isoT (L : List Int) : Nat → Option (List Int)
  | 0 => none
  | n + 1 => if L.getD n 0 = 8297 then some (L.take n) else isoT L n
def isoL (L : List Int) : Option (List Int) := isoT L L.length
set_option maxRecDepth 100000 in
set_option maxHeartbeats 2000000 in
theorem isolated_ok {w : World} {ob : Nat} {lv p v : Value} {L : List Int} {out : List UInt8} (h : OpAt w ob lv p v L out) (hl : L.length ≤ 1099511627776) :
    Calls Tryd.prog 66 #[.pointer (some ⟨ob, 0, none⟩)] w fun e w' => ∃ lv', e = .returned (.bool (isoL L).isSome) ∧ OpAt w' ob lv' p v ((isoL L).getD L) out ∧ lv'.ownBlock = lv.ownBlock ∧ Frm (fun j => j = ob) w w' := by
  have hB := h.bld.blk
  obtain ⟨x0, x1, x2, xf, xl⟩ := hB.c3
  obtain ⟨A, cap, rfl, hca, hcb, hR⟩ := h.row.val
  obtain ⟨n, hn⟩ : ∃ n, L.length = n := ⟨_, rfl⟩
  rw [hn] at x0 h hl hca
  have HN := Lib.hid hn
  obtain ⟨res, hres⟩ : ∃ x, isoL L = x := ⟨_, rfl⟩
  rw [hres, hn]
  have hres2 : isoT L n = res := by rw [← hn]; exact hres
  have HRES := Lib.hid hres2
  clear hn hres hres2
  go_enter Tryd.func66, Tryd.ntmps66
  go_wp2
  go_loopg [3] n (fun gk iv wr => iv = .int .i64 ((gk : Int) - 1) ∧ gk ≤ n ∧ isoT L n = isoT L gk ∧ wr = w)
  case atStart => exact ⟨by go_num, Nat.le_refl _, rfl, rfl⟩
  case round =>
    obtain ⟨rfl, hgn, hiso, rfl⟩ := hrel
    rw [HRES.out] at hiso
    have HISO := Lib.hid hiso
    clear hiso
    rcases gk with _ | i
    · have hr0 : res = none := HISO.out
      subst hr0
      go_wp2
      go_ret
      exact ⟨_, rfl, h, rfl, Frm.refl _ _⟩
    · have hii : (((i + 1 : Nat) : Int) - 1) = (i : Int) := by omega
      rw [hii]
      have hil : i < L.length := by have := HN.out; omega
      obtain ⟨g, off, rfl, _, hgl, kc⟩ := hR.at_ hil
      have hA : off = 0 := by
        rcases h.row.2 with ⟨e, _⟩ | ⟨g', c', cur, e, _⟩
        · cases e
        · injection e with e1 _ _; injection e1 with e1; injection e1
      subst hA
      rw [Nat.zero_add] at kc
      obtain ⟨t, ht⟩ : ∃ t, L.getD i 0 = t := ⟨_, rfl⟩
      rw [ht] at kc
      have hst : isoT L (i + 1) = if t = 8297 then some (L.take i) else isoT L i := by rw [← ht]; rfl
      rcases heq : (t == 8297) with _ | _
      · have ht2 : t ≠ 8297 := by simpa using heq
        rw [if_neg ht2] at hst
        have HST := Lib.hid hst
        clear hst ht
        go_wp2
        go_roundg i
        case rel => exact ⟨by first | rfl | go_num, by omega, by rw [HRES.out, HISO.out, HST.out], rfl⟩
        case measure => omega
      · have ht2 : t = 8297 := by simpa using heq
        rw [if_pos ht2] at hst
        have hr0 : res = some (L.take i) := by rw [HISO.out, hst]
        subst hr0
        have hput := h.put (Ints.cut0 h.row i (by omega))
        have HP := Lib.hid hput
        clear hput hst ht
        go_wp2
        all_goals (go_ret; exact ⟨_, rfl, HP.out.1, rfl, HP.out.2⟩)
end Go.Proofs.YtaekdnfpgkfjkaaDoor
