/- Chapter 17's laws' own helpers: two lists of numbers, classes lent and kept. -/
import Derived.Test.YthifeccmbojcdaaF2
namespace Go.Proofs.Ythifeccmbojcdaa
open Go.RowKit

set_option maxRecDepth 100000 in
set_option maxHeartbeats 2000000 in
theorem numbers17_ok {w : World} {B B2 : Nat} {A A2 : Option Addr} {n n2 c c2 : Nat} {l : List Int} (hn : n = l.length) (hn2 : n2 = l.length) (h : RdInts w B .i64 A l) (h2 : RdInts w B2 .i64 A2 l) (hl : l.length ≤ 1152921504606846976) :
    Calls Try.prog 31 #[.slice A n c, .slice A2 n2 c2] w fun r w' => r = .returned (.bool true) ∧ Below w.heap.size w w' := by
  obtain rfl : n2 = n := hn2.trans hn.symm
  have HN := Lib.hid hn
  have hl' : n2 ≤ 1152921504606846976 := by omega
  clear hn hn2
  go_enter Try.func31, Try.ntmps31
  go_wp2
  go_loopg [5] n2 (fun gk iv wr => ∃ j : Nat, j + gk = n2 ∧ iv = .int .i64 j ∧ Below w.heap.size w wr)
  case atStart => exact ⟨0, by omega, rfl, Below.refl _ _⟩
  case round =>
    obtain ⟨j, hj, rfl, b⟩ := hrel
    have HJ := Lib.hid hj
    clear hj
    by_cases hlt : j < n2
    · obtain ⟨ab, off, rfl, _, _, hc⟩ := (h.below b (.inr (Nat.le_refl _))).at_ (i := j) (by have := HN.out; omega)
      obtain ⟨bb, of2, rfl, _, _, hc2⟩ := (h2.below b (.inr (Nat.le_refl _))).at_ (i := j) (by have := HN.out; omega)
      generalize l.getD j 0 = x at hc hc2
      go_wp2_with (go_quiet (fail))
      go_roundg (n2 - (j + 1))
      case rel => exact ⟨j + 1, by have := HJ.out; omega, by go_num, ⟨b.os, b.tape, b.output, b.size, b.block⟩⟩
      case measure => have := HJ.out; omega
    · have hjl : j = n2 := by have := HJ.out; omega
      subst hjl
      go_wp2
      go_ret
      exact ⟨rfl, b⟩

set_option maxRecDepth 100000 in
set_option maxHeartbeats 2000000 in
theorem lent17_ok {w : World} {B : Nat} {A : Option Addr} {c : Nat} {l : List Int} (h : RdInts w B .u8 A l) (hl : l.length ≤ 140737488351232) :
    Calls Try.prog 28 #[.slice A l.length c] w fun r w' => ∃ g cap, r = .returned (.slice (some ⟨g, 0, none⟩) l.length cap) ∧ Ints w' w.heap.size 38 .u8 (.slice (some ⟨g, 0, none⟩) (l.length + 2) cap) (l ++ [77, 78]) ∧ Below w.heap.size w w' := by
  have I0 := Ints.nil w w.heap.size 38 .u8
  go_enter Try.func28, Try.ntmps28
  go_wp2_with (at_builtin; go_must (refine wpList_appIs ei22 rfl rfl rfl I0 rfl rfl h ?_ ?_ (Nat.le_refl _) ?_))
  · simp; unfold maxLen; omega
  · simp; omega
  · intro v1 w1 I1 g1 hv1
    have I1 : Ints w1 w.heap.size 38 .u8 v1 l := I1
    obtain ⟨oA, ocap, rfl, ho1, ho2, _⟩ := I1.val
    have b1 := (Below.refl w.heap.size w).grown g1 (Nat.le_refl _) (by simp [Value.ownBlock])
    have hs1 := b1.size
    have rd2 : RdInts (w1.alloc (.cells #[.int .u8 77, .int .u8 78] 38)) (w1.heap.size + 1) .u8 (some ⟨w1.heap.size, 0, none⟩) [77, 78] := by
      have h := Reads.blk (n := 2) (size := 1) (Blk.new w1 38 #[.int .u8 77, .int .u8 78]) rfl
      rw [World.size_alloc] at h
      exact h
    go_wp2_with (at_builtin; go_must (refine wpList_appIs ei22 rfl rfl rfl (I1.alloc _) rfl rfl rd2 ?_ ?_ ?_ ?_))
    · simp; unfold maxLen; omega
    · simp; omega
    · simp; omega
    · intro v2 w2 I2 g2 hg
      have b2 := (b1.alloc hs1 (.cells #[.int .u8 77, .int .u8 78] 38)).grown g2 (by simp; omega) (fun k hk => (I1.lt k hk).1)
      obtain ⟨g, cap, rfl⟩ := I2.form (by simp)
      obtain ⟨-, hcap, hmax, -⟩ := I2.at_
      simp only [List.length_append, List.length_cons, List.length_nil, Nat.zero_add, Nat.reduceAdd] at hcap I2
      have hcap1 : l.length ≤ cap := by omega
      have hcap2 : (l.length : Int) ≤ cap := by omega
      unfold maxLen at hmax
      clear ho1 ho2
      go_wp2
      go_ret
      exact ⟨g, cap, rfl, I2, b2⟩

set_option maxRecDepth 100000 in
set_option maxHeartbeats 2000000 in
theorem kept17_ok {w : World} {B D : Nat} {A : Option Addr} {c g cap : Nat} {l : List Int} (hI : Ints w D 38 .u8 (.slice (some ⟨g, 0, none⟩) (l.length + 2) cap) (l ++ [77, 78])) (h : RdInts w B .u8 A l) (hl : l.length ≤ 140737488351232) :
    Calls Try.prog 32 #[.slice (some ⟨g, 0, none⟩) l.length cap, .slice A l.length c] w fun r w' => r = .returned (.bool true) ∧ Below w.heap.size w w' := by
  obtain ⟨-, hcap, hmax, hDg, hgw, hfz, hcell⟩ := hI.at_
  simp only [List.length_append, List.length_cons, List.length_nil] at hcap hcell
  have hlast := hcell l.length (by omega)
  have hlast2 := hcell (l.length + 1) (by omega)
  have e77 : (l ++ [77, 78]).getD l.length 0 = 77 := by simp [List.getD]
  have e78 : (l ++ [77, 78]).getD (l.length + 1) 0 = 78 := by simp [List.getD]
  rw [e77] at hlast
  rw [e78] at hlast2
  have hmx : cap ≤ 9223372036854775807 := by unfold maxLen at hmax; omega
  have hcp : (l.length : Int) + 2 ≤ cap := by omega
  have hcp0 : (0 : Int) ≤ (l.length : Int) + 2 := by omega
  have hcpt : ((l.length : Int) + 2).toNat = l.length + 2 := by omega
  have hcpt1 : ((l.length : Int) + 1).toNat = l.length + 1 := by omega
  have hlI : (l.length : Int) ≤ 140737488351232 := by omega
  have hx1 : (l.length : Int) < (l.length : Int) + 2 := by omega
  have hx2 : (l.length : Int) + 1 < (l.length : Int) + 2 := by omega
  have hx3 : (0 : Int) ≤ (l.length : Int) + 1 := by omega
  have HC := Lib.hid hcell
  clear hcell e77 e78
  go_enter Try.func32, Try.ntmps32
  go_wp2
  go_loopg [6] l.length (fun gk iv wr => ∃ j : Nat, j + gk = l.length ∧ iv = .int .i64 j ∧ Below w.heap.size w wr)
  case atStart => exact ⟨0, by omega, rfl, Below.refl _ _⟩
  case round =>
    obtain ⟨j, hj, rfl, b⟩ := hrel
    have HJ := Lib.hid hj
    clear hj
    obtain ⟨k1, k2, -⟩ := bcell b
    by_cases hjn : j < l.length
    · have hcj := (k1 _ _ hgw).trans (HC.out j (by omega))
      have e : (l ++ [77, 78]).getD j 0 = l.getD j 0 := by simp [List.getD, List.getElem?_append_left hjn]
      rw [e] at hcj
      obtain ⟨a1, o1, rfl, hab, hl1, c1⟩ := (h.below b (.inr (Nat.le_refl _))).at_ hjn
      generalize l.getD j 0 = v at hcj c1
      clear e k1 k2
      have hj2 : (j : Int) < (l.length : Int) + 2 := by omega
      go_wp2_with (go_quiet (fail))
      go_roundg (l.length - (j + 1))
      case rel => exact ⟨j + 1, by have := HJ.out; omega, by go_num, ⟨b.os, b.tape, b.output, b.size, b.block⟩⟩
      case measure => have := HJ.out; omega
    · have hjl : j = l.length := by have := HJ.out; omega
      subst hjl
      have hcj := (k1 _ _ hgw).trans hlast
      have hcj2 := (k1 _ _ hgw).trans hlast2
      clear k1 k2
      go_wp2
      go_ret
      exact ⟨rfl, b⟩
end Go.Proofs.Ythifeccmbojcdaa
