/- A list lent, and whether it was kept; an answer written over. -/
import Derived.Test.YtfelcmppopibcaaE7
import Derived.Test.YtfelcmppopibcaaL1
import Derived.Test.YtfelcmppopibcaaA1
namespace Go.Proofs.Ytfelcmppopibcaa
open Go.RowKit

set_option maxRecDepth 100000 in
set_option maxHeartbeats 1000000 in
theorem lent_ok {w : World} {B : Nat} {A : Option Addr} {c : Nat} {l : List Int} (h : RdInts w B .u8 A l) (hl : l.length ≤ 140737488351232) :
    Calls Try.prog 11 #[.slice A l.length c] w fun r w' => ∃ g cap, r = .returned (.slice (some ⟨g, 0, none⟩) l.length cap) ∧ Ints w' w.heap.size 40 .u8 (.slice (some ⟨g, 0, none⟩) (l.length + 1) cap) (l ++ [77]) ∧ Below w.heap.size w w' := by
  have I0 := Ints.nil w w.heap.size 40 .u8
  go_enter Try.func11, Try.ntmps11
  go_wp2_with (at_builtin; go_must (refine wpList_appIs Try.ei24 rfl rfl rfl I0 rfl rfl h ?_ ?_ (Nat.le_refl _) ?_))
  · simp; unfold maxLen; omega
  · simp; omega
  · intro v1 w1 I1 g1 hv1
    have I1 : Ints w1 w.heap.size 40 .u8 v1 l := I1
    obtain ⟨oA, ocap, rfl, ho1, ho2, _⟩ := I1.val
    have b1 := (Below.refl w.heap.size w).grown g1 (Nat.le_refl _) (by simp [Value.ownBlock])
    have hs1 := b1.size
    go_wp2_with (at_builtin; go_must (refine wpList_appI Try.ei24 rfl rfl rfl (I1.alloc _) rfl (Blk.at_ (by simp)) ?_ ?_ ?_ ?_))
    · unfold maxLen; omega
    · omega
    · simp; omega
    · intro g cap w2 I2 g2 hg
      have b2 := (b1.alloc hs1 (.cells #[.int .u8 77] 40)).grown g2 (by simp; omega) (fun k hk => (I1.lt k hk).1)
      obtain ⟨-, hcap, hmax, -⟩ := I2.at_
      simp only [List.length_append, List.length_cons, List.length_nil] at hcap
      have hcap1 : l.length ≤ cap := by omega
      have hcap2 : (l.length : Int) ≤ cap := by omega
      unfold maxLen at hmax
      clear ho1 ho2
      go_wp2
      go_ret
      exact ⟨g, cap, rfl, I2, b2⟩

set_option maxRecDepth 100000 in
set_option maxHeartbeats 1000000 in
theorem kept_ok {w : World} {B D : Nat} {A : Option Addr} {c g cap : Nat} {l : List Int} (hI : Ints w D 40 .u8 (.slice (some ⟨g, 0, none⟩) (l.length + 1) cap) (l ++ [77])) (h : RdInts w B .u8 A l) (hB : B ≤ D) (hl : l.length ≤ 140737488351232) :
    Calls Try.prog 15 #[.slice (some ⟨g, 0, none⟩) l.length cap, .slice A l.length c] w fun r w' => r = .returned (.bool true) ∧ Frm (fun k => k = g) w w' := by
  obtain ⟨-, hcap, hmax, hDg, hgw, hfz, hcell⟩ := hI.at_
  simp only [List.length_append, List.length_cons, List.length_nil] at hcap hcell
  have hlast := hcell l.length (by omega)
  have e77 : (l ++ [77]).getD l.length 0 = 77 := by simp [List.getD]
  rw [e77] at hlast
  have hmx : cap ≤ 9223372036854775807 := by unfold maxLen at hmax; omega
  have hcp : (l.length : Int) + 1 ≤ cap := by omega
  have hcp0 : (0 : Int) ≤ (l.length : Int) + 1 := by omega
  have hcpt : ((l.length : Int) + 1).toNat = l.length + 1 := by omega
  clear hcell e77
  go_enter Try.func15, Try.ntmps15
  go_wp2
  go_loopg [6, 7] l.length (fun gk ok iv wr => ∃ (j : Nat) (xs : List Int), j + gk = l.length ∧ iv = .int .i64 j ∧ ok = .bool true ∧ Ints wr D 40 .u8 (.slice (some ⟨g, 0, none⟩) (l.length + 1) cap) xs ∧ (∀ i, j ≤ i → i < l.length → xs.getD i 0 = l.getD i 0) ∧ Frm (fun k => k = g) w wr)
  case atStart => exact ⟨0, _, by omega, rfl, rfl, hI, fun i _ hi => by simp [List.getD, List.getElem?_append_left hi], Frm.refl _ _⟩
  case round =>
    obtain ⟨j, xs, hj, rfl, rfl, I, hx, F⟩ := hrel
    have HJ := Lib.hid hj
    clear hj
    by_cases hjn : j < l.length
    · obtain ⟨hxl, _, _, _, hgr, hfr, hce⟩ := I.at_
      have HXL := Lib.hid hxl
      have hcj := hce j (by omega)
      rw [hx j (Nat.le_refl _) hjn] at hcj
      obtain ⟨a1, o1, rfl, hab, hl1, c1⟩ := (h.frmA F (fun b off e => by
        subst e
        obtain ⟨b', off', e', hb', _⟩ := h.at_ hjn
        cases e'
        omega)).at_ hjn
      generalize l.getD j 0 = v at hcj c1
      clear hxl hce
      go_upto_region 6 with (fail)
      refine wp_region_reads (by kernel_rfl) (by kernel_rfl) ?_
      repeat (first
        | (refine still_plain rfl rfl ?_; intro K hK; go_wp2)
        | (refine still_guard rfl ?_; intro K hK; rw [if_pos (by rfl)]; go_wp2))
      refine wpStill_nil ?_
      go_wp2
      go_roundg (l.length - (j + 1))
      case rel =>
        refine ⟨j + 1, xs.set j 99, by have := HJ.out; omega, by go_num, rfl, (I.drew).set j 99, fun i h1 h2 => ?_, ?_⟩
        · rw [List.getD, List.getElem?_set_ne (by omega)]
          exact hx i (by omega) h2
        · exact (F.drew).set rfl _
      case measure => have := HJ.out; omega
    · go_wp2
      go_ret
      exact ⟨rfl, F⟩
end Go.Proofs.Ytfelcmppopibcaa
