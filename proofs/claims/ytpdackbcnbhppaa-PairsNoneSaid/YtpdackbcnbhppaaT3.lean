/- Level runs: what a text holds; the level of a kept character. -/
import Derived.Test.YtpdackbcnbhppaaT2
import Derived.Deep.RegionHeld3
namespace Go.Proofs.Ytpdackbcnbhppaa
open Go.RowKit

theorem Blk.c7 {w : World} {g : Nat} {t : TypeId} {a b c d e f i : Value} (h : Blk w g t #[a, b, c, d, e, f, i]) : w.cell? ⟨g, 0, none⟩ = some a ∧ w.cell? ⟨g, 1, none⟩ = some b ∧ w.cell? ⟨g, 2, none⟩ = some c ∧ w.cell? ⟨g, 3, none⟩ = some d ∧ w.cell? ⟨g, 4, none⟩ = some e ∧ w.cell? ⟨g, 5, none⟩ = some f ∧ w.cell? ⟨g, 6, none⟩ = some i ∧ (∀ j, w.frozen? ⟨g, j, none⟩ = false) ∧ g < w.heap.size :=
  ⟨by rw [h.cell]; rfl, by rw [h.cell]; rfl, by rw [h.cell]; rfl, by rw [h.cell]; rfl, by rw [h.cell]; rfl, by rw [h.cell]; rfl, by rw [h.cell]; rfl, h.frozen, h.lt⟩

/-- What sequences are made of. -/
structure Txt where
  cl : List Int
  nw : List Int
  lv : List Int
  base : Int
  ks : List Int
  ix : List Int
  mt : List Int

structure TextAt (w : World) (tb : Nat) (x : Txt) (n m : Nat) (A0 A1 A2 A4 A5 A6 : Option Addr) (c0 c1 c2 c4 c5 c6 : Nat) : Prop where
  blk : Blk w tb 104 #[.slice A0 n c0, .slice A1 n c1, .slice A2 n c2, .int .i8 x.base, .slice A4 m c4, .slice A5 n c5, .slice A6 n c6]
  cl : RdInts w w.heap.size .u8 A0 x.cl
  nw : RdInts w w.heap.size .u8 A1 x.nw
  lv : RdInts w w.heap.size .i8 A2 x.lv
  ks : RdInts w w.heap.size .i64 A4 x.ks
  ix : RdInts w w.heap.size .i64 A5 x.ix
  mt : RdInts w w.heap.size .i64 A6 x.mt

theorem TextAt.below {w w' : World} {tb : Nat} {x : Txt} {n m : Nat} {A0 A1 A2 A4 A5 A6 : Option Addr} {c0 c1 c2 c4 c5 c6 : Nat} (h : TextAt w tb x n m A0 A1 A2 A4 A5 A6 c0 c1 c2 c4 c5 c6) {C : Nat} (hb : Below C w w') (hC : w.heap.size ≤ C) :
    TextAt w' tb x n m A0 A1 A2 A4 A5 A6 c0 c1 c2 c4 c5 c6 :=
  ⟨h.blk.below hb (Nat.lt_of_lt_of_le h.blk.lt hC), (h.cl.below hb (.inr hC)).more hb.size, (h.nw.below hb (.inr hC)).more hb.size, (h.lv.below hb (.inr hC)).more hb.size, (h.ks.below hb (.inr hC)).more hb.size, (h.ix.below hb (.inr hC)).more hb.size, (h.mt.below hb (.inr hC)).more hb.size⟩
theorem TextAt.drewN {w : World} {tb : Nat} {x : Txt} {n m : Nat} {A0 A1 A2 A4 A5 A6 : Option Addr} {c0 c1 c2 c4 c5 c6 : Nat} (h : TextAt w tb x n m A0 A1 A2 A4 A5 A6 c0 c1 c2 c4 c5 c6) (j : Nat) : TextAt (w.drewN j) tb x n m A0 A1 A2 A4 A5 A6 c0 c1 c2 c4 c5 c6 :=
  ⟨h.blk.drewN j, h.cl, h.nw, h.lv, h.ks, h.ix, h.mt⟩

/-- The level of the kept character so many kept ones from the front. -/
def lvK (x : Txt) (k : Int) : Int := if k < 0 then x.base else if (x.ks.length : Int) ≤ k then x.base else lvAt x.lv (x.ks.getD k.toNat 0)

set_option maxRecDepth 100000 in
set_option maxHeartbeats 1000000 in
theorem level_ok {w : World} {tb : Nat} {x : Txt} {n m : Nat} {A0 A1 A2 A4 A5 A6 : Option Addr} {c0 c1 c2 c4 c5 c6 : Nat} (h : TextAt w tb x n m A0 A1 A2 A4 A5 A6 c0 c1 c2 c4 c5 c6) (hn : n = x.lv.length) (hm : m = x.ks.length)
    (hks : ∀ k, k < m → ∃ a : Nat, x.ks.getD k 0 = a ∧ a < n) (k : Int) :
    Calls Try.prog 82 #[.pointer (some ⟨tb, 0, none⟩), .int .i64 k] w fun r w' => r = .returned (.int .i8 (lvK x k)) ∧ ∃ d, w' = w.drewN d := by
  obtain ⟨x0, x1, x2, x3, x4, x5, x6, xf, xl⟩ := h.blk.c7
  have HN := Lib.hid hn
  have HM := Lib.hid hm
  clear hn hm
  by_cases h0 : k < 0
  · have e : lvK x k = x.base := by unfold lvK; rw [if_pos h0]
    rw [e]
    clear e
    go_enter Try.func82, Try.ntmps82
    go_wp2
    go_ret
    exact ⟨rfl, 0, rfl⟩
  · by_cases h1 : (m : Int) ≤ k
    · have e : lvK x k = x.base := by unfold lvK; rw [if_neg h0, if_pos (by rw [← HM.out]; exact h1)]
      rw [e]
      clear e
      go_enter Try.func82, Try.ntmps82
      go_wp2
      go_ret
      exact ⟨rfl, 0, rfl⟩
    · obtain ⟨j, rfl⟩ : ∃ j : Nat, k = j := ⟨k.toNat, by omega⟩
      have hj : j < m := by omega
      have hja : j < x.ks.length := by rw [← HM.out]; exact hj
      obtain ⟨a, ha, han⟩ := hks j hj
      obtain ⟨b4, o4, rfl, _, _, hc4⟩ := h.ks.at_ hja
      obtain ⟨b2, o2, rfl, _, _, hc2⟩ := h.lv.at_ (i := a) (by have := HN.out; omega)
      have e : lvK x (j : Int) = lvAt x.lv (a : Int) := by unfold lvK; rw [if_neg h0, if_neg (by rw [← HM.out]; exact h1), ← ha]; rfl
      have e2 : x.lv.getD a 0 = lvAt x.lv (a : Int) := rfl
      rw [e]
      rw [e2] at hc2
      rw [ha] at hc4
      have h1' : ¬ (m ≤ j) := by omega
      clear e e2 h h0 ha hja
      go_enter Try.func82, Try.ntmps82
      go_wp2_with (go_quiet (fail))
      go_ret
      exact ⟨rfl, _, rfl⟩
end Go.Proofs.Ytpdackbcnbhppaa
