/- paras.Match walked. stack.autos walked. -/
import Derived.Test.YtpdackbcnbhppaaKit2
import Derived.Test.YtpdackbcnbhppaaS3
import Derived.Test.YtpdackbcnbhppaaM1
import Derived.Test.YtpdackbcnbhppaaS4
namespace Go.Proofs.Ytpdackbcnbhppaa
theorem Try.ei24 : ElemI Try.prog 24 28 .u8 1 := ElemI.mk' Try.underlying24 (by kernel_rfl)
theorem Try.ei26 : ElemI Try.prog 25 23 .i8 1 := ElemI.mk' Try.underlying25 (by kernel_rfl)
theorem Try.ei27 : ElemI Try.prog 27 3 .i64 8 := ElemI.mk' Try.underlying27 (by kernel_rfl)
end Go.Proofs.Ytpdackbcnbhppaa

namespace Go.Proofs.Ytpdackbcnbhppaa
open Go.RowKit

theorem suf_at (i : Nat) (s : List Int) (x : Int) : (List.replicate (i + 1) 0 ++ s).set i x = List.replicate i 0 ++ (x :: s) := by
  rw [List.replicate_succ', List.append_assoc, List.set_append]
  simp
theorem suf_get (i j : Nat) (s : List Int) : (List.replicate (i + 1) 0 ++ s).getD (i + 1 + j) 0 = s.getD j 0 := by
  have : ¬ i + 1 + j < i + 1 := by omega
  simp [List.getD, List.getElem?_append, this]
theorem suf_zero (i : Nat) (s : List Int) : (List.replicate (i + 1) 0 ++ s) = List.replicate i 0 ++ ((0 : Int) :: s) := by
  rw [List.replicate_succ', List.append_assoc]; rfl
theorem autoSuf_next {l m : List Int} {i k : Nat} (h : i + 1 + k = l.length) : autoSuf l m (k + 1) = autoOne l.length i (l.getD i 0) (m.getD i 0) (autoSuf l m k) :: autoSuf l m k := by
  have : l.length - (k + 1) = i := by omega
  simp only [autoSuf, this]

set_option maxRecDepth 100000 in
set_option maxHeartbeats 1000000 in
theorem autos_any {w : World} {B B2 : Nat} {A A2 : Option Addr} {c c2 : Nat} {l : List Int} (h : RdInts w B .u8 A l) (h2 : RdInts w B2 .i64 A2 (matchL l)) (hB : B ≤ w.heap.size) (hB2 : B2 ≤ w.heap.size) (hl : l.length ≤ 1048576) :
    Calls Try.prog 85 #[.slice A l.length c, .slice A2 l.length c2] w fun r w' => ∃ g cap, r = .returned (.slice (some ⟨g, 0, none⟩) (l.length + 1) cap) ∧ Ints w' w.heap.size 23 .i8 (.slice (some ⟨g, 0, none⟩) (l.length + 1) cap) (autosL l (matchL l)) ∧ Below w.heap.size w w' := by
  have hm := matchL_inv l
  generalize (mRun l.length l).2 = pile at hm
  generalize matchL l = m at hm h2 ⊢
  have hml := hm.len
  go_enter Try.func85, Try.ntmps85
  go_wp2_with (at_make; go_must (refine wpList_mkI Try.ei26 w.heap.size rfl rfl (l.length + 1) rfl rfl (by simp) (by simp) ?_ ?_ (Nat.le_refl _) ?_))
  · omega
  · unfold maxLen; omega
  intro w1 ho1 hg1
  have hb1 : Below w.heap.size w w1 := (Below.refl _ _).grown hg1 (Nat.le_refl _) (by simp)
  go_wp2
  go_loopg [6] l.length (fun gk iv wr => ∃ j k : Nat, j + k = l.length ∧ iv = .int .i64 ((j : Int) - 1) ∧ gk = j ∧ Ints wr w.heap.size 23 .i8 (.slice (some ⟨w.heap.size, 0, none⟩) (l.length + 1) (l.length + 1)) (List.replicate j 0 ++ autoSuf l m k) ∧ Below w.heap.size w wr)
  case atStart =>
    refine ⟨l.length, 0, by simp, rfl, rfl, ?_, hb1⟩
    have : List.replicate l.length (0 : Int) ++ autoSuf l m 0 = List.replicate (l.length + 1) 0 := by rw [List.replicate_succ']; rfl
    rw [this]; exact ho1
  case round =>
    obtain ⟨j, k, hjk, hiv, hgk, I0, hb⟩ := hrel
    cases j with
    | zero =>
      subst hiv
      have hk : k = l.length := by omega
      subst hk
      simp only [List.replicate_zero, List.nil_append] at I0
      clear hjk
      go_wp2
      go_ret
      exact ⟨w.heap.size, l.length + 1, rfl, I0, hb⟩
    | succ i =>
      have e : (((i + 1 : Nat) : Int) - 1) = (i : Int) := by omega
      rw [e] at hiv
      subst hiv
      have hil : i < l.length := by omega
      have hr := h.below hb (.inl hB)
      have hr2 := h2.below hb (.inl hB2)
      obtain ⟨b, off, rfl, hbB, hbs, hc⟩ := hr.at_ hil
      obtain ⟨b2, off2, rfl, hbB2, hbs2, hc2⟩ := hr2.at_ (i := i) (by omega)
      obtain ⟨-, _, _, _, hos, hofr, hoc⟩ := I0.at_
      have hlen : (List.replicate (i + 1) (0 : Int) ++ autoSuf l m k).length = l.length + 1 := by simp [autoSuf_length]; omega
      have hoi := hoc i (by omega)
      have hkind := hm.kind i _ (get_getD hil)
      have hnx := autoSuf_next (l := l) (m := m) hjk
      have hI : ∀ x, Ints (wr.setCell ⟨w.heap.size, i, none⟩ (.int .i8 x)) w.heap.size 23 .i8 (.slice (some ⟨w.heap.size, 0, none⟩) (l.length + 1) (l.length + 1)) (List.replicate i 0 ++ (x :: autoSuf l m k)) := fun x => by
        have := I0.set i x
        rwa [suf_at] at this
      have hb' : ∀ x, Below w.heap.size w (wr.setCell ⟨w.heap.size, i, none⟩ (.int .i8 x)) := fun x => hb.setCell (Nat.le_refl _) _
      have hsuc := hoc (i + 1) (by omega)
      rw [suf_get i 0] at hsuc
      have hfar : ∀ y : Nat, i < y → y < l.length → wr.cell? ⟨w.heap.size, y + 1, none⟩ = some (.int .i8 ((autoSuf l m k).getD (y - i) 0)) := fun y h1 h2 => by
        have h3 := hoc (y + 1) (by omega)
        have h4 : y + 1 = i + 1 + (y - i) := by omega
        rw [h4, suf_get] at h3
        rwa [← h4] at h3
      rw [suf_zero] at I0
      generalize hc0 : l.getD i 0 = c0 at hc hkind hnx
      generalize hm0 : m.getD i 0 = m0 at hc2 hnx
      have HM0 := Lib.hid hm0
      have HJ := Lib.hid hjk
      have HN := Lib.hid hnx
      have HFAR := Lib.hid hfar
      have HI := Lib.hid hI
      have HB := Lib.hid hb'
      have HK := Lib.hid hkind
      have HG := Lib.hid hgk
      clear hm0 hjk hnx hfar hI hb' hkind hgk hlen hoc hc0 e
      by_cases h2' : c0 = 2
      · subst h2'
        go_wp2
        go_roundg i
        case rel => exact ⟨i, k + 1, by have := HJ.out; omega, rfl, rfl, by rw [HN.out, show autoOne l.length i 2 m0 (autoSuf l m k) = 1 from by simp [autoOne]]; exact HI.out _, HB.out _⟩
        case measure => have := HG.out; omega

      by_cases h3' : c0 = 3
      · subst h3'
        go_wp2
        go_roundg i
        case rel => exact ⟨i, k + 1, by have := HJ.out; omega, rfl, rfl, by rw [HN.out, show autoOne l.length i 3 m0 (autoSuf l m k) = 1 from by simp [autoOne]]; exact HI.out _, HB.out _⟩
        case measure => have := HG.out; omega

      by_cases h1' : c0 = 1
      · subst h1'
        go_wp2
        go_roundg i
        case rel => exact ⟨i, k + 1, by have := HJ.out; omega, rfl, rfl, by rw [HN.out, show autoOne l.length i 1 m0 (autoSuf l m k) = 0 from by simp [autoOne]]; exact I0, hb⟩
        case measure => have := HG.out; omega

      by_cases h11' : c0 = 11
      · subst h11'
        go_wp2
        go_roundg i
        case rel => exact ⟨i, k + 1, by have := HJ.out; omega, rfl, rfl, by rw [HN.out, show autoOne l.length i 11 m0 (autoSuf l m k) = 0 from by simp [autoOne]]; exact I0, hb⟩
        case measure => have := HG.out; omega

      have hx2 : (c0 == 2) = false := beq_eq_false_iff_ne.2 h2'
      have hx3 : (c0 == 3) = false := beq_eq_false_iff_ne.2 h3'
      have hx1 : (c0 == 1) = false := beq_eq_false_iff_ne.2 h1'
      have hx11 : (c0 == 11) = false := beq_eq_false_iff_ne.2 h11'
      by_cases h23' : c0 = 23
      · subst h23'
        by_cases hm0 : 0 ≤ m0
        · go_wp2
          go_roundg i
          case rel => exact ⟨i, k + 1, by have := HJ.out; omega, rfl, rfl, by rw [HN.out, show autoOne l.length i 23 m0 (autoSuf l m k) = 0 from by simp [autoOne, hm0]]; exact I0, hb⟩
          case measure => have := HG.out; omega

        · have hm0' : m0 < 0 := by omega
          go_wp2
          go_roundg i
          case rel => exact ⟨i, k + 1, by have := HJ.out; omega, rfl, rfl, by rw [HN.out, show autoOne l.length i 23 m0 (autoSuf l m k) = (autoSuf l m k).getD 0 0 from by rw [autoOne, if_neg (by omega), if_neg (by omega), if_neg (by omega), if_pos hm0']]; exact HI.out _, HB.out _⟩
          case measure => have := HG.out; omega

      have hx23 : (c0 != 23) = true := by simp [h23']
      have hy23 : (c0 == 23) = false := beq_eq_false_iff_ne.2 h23'
      by_cases hm0 : 0 ≤ m0
      · by_cases hmn : m0 < l.length
        · obtain ⟨y, rfl⟩ := Int.eq_ofNat_of_zero_le hm0
          have hiy : i < y := by
            rcases HK.out with ⟨k1, _⟩ | ⟨k1, _⟩ | ⟨y', k1, k2, k3, k4⟩
            · have := getD_of k1; rw [HM0.out] at this; omega
            · have := getD_of k1; rw [HM0.out] at this; omega
            · have h9 := getD_of k1
              rw [HM0.out] at h9
              have : y = y' := by omega
              subst this
              rcases k4 with ⟨k5, _⟩ | ⟨_, k5, _⟩
              · exact k5
              · exact absurd k5 h23'
          have hyl : y < l.length := by omega
          have hcy := HFAR.out y hiy hyl
          clear hm0 hmn
          go_wp2
          go_roundg i
          case rel => exact ⟨i, k + 1, by have := HJ.out; omega, rfl, rfl, by rw [HN.out, show autoOne l.length i c0 (y : Int) (autoSuf l m k) = (autoSuf l m k).getD (y - i) 0 from by rw [autoOne, if_neg (by omega), if_neg (by omega), if_pos ⟨h23', by omega, by omega⟩, Int.toNat_natCast]]; exact HI.out _, HB.out _⟩
          case measure => have := HG.out; omega

        · have hmn' : (l.length : Int) ≤ m0 := by omega
          go_wp2
          go_roundg i
          case rel => exact ⟨i, k + 1, by have := HJ.out; omega, rfl, rfl, by rw [HN.out, show autoOne l.length i c0 m0 (autoSuf l m k) = 0 from by rw [autoOne, if_neg (by omega), if_neg (by omega), if_neg (by omega), if_neg (by omega)]]; exact I0, hb⟩
          case measure => have := HG.out; omega

      · have hm0' : m0 < 0 := by omega
        go_wp2
        go_roundg i
        case rel => exact ⟨i, k + 1, by have := HJ.out; omega, rfl, rfl, by rw [HN.out, show autoOne l.length i c0 m0 (autoSuf l m k) = (autoSuf l m k).getD 0 0 from by rw [autoOne, if_neg (by omega), if_neg (by omega), if_neg (by omega), if_pos hm0']]; exact HI.out _, HB.out _⟩
        case measure => have := HG.out; omega

end Go.Proofs.Ytpdackbcnbhppaa
