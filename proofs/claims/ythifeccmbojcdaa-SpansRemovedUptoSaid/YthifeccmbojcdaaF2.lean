/- Clusters, by both. -/
import Derived.Test.YthifeccmbojcdaaF1
namespace Go.Proofs.Ythifeccmbojcdaa
open Go.RowKit

/-- Where clusters begin, of the first k characters. -/
def clusT (l : List Int) : Nat → List Int
  | 0 => []
  | k + 1 => if k = 0 ∨ begC (l.getD k 0) = true then clusT l k ++ [(k : Int)] else clusT l k
def clusL (l : List Int) : List Int := clusT l l.length

theorem clusT_length (l : List Int) : ∀ k, (clusT l k).length ≤ k
  | 0 => by simp [clusT]
  | k + 1 => by
    have := clusT_length l k
    unfold clusT
    split <;> simp <;> omega

theorem clusT_map (l : List Int) : ∀ k, k ≤ l.length → clusT (l.map clsC) k = clusT l k
  | 0, _ => rfl
  | k + 1, h => by
    have e : (l.map clsC).getD k 0 = clsC (l.getD k 0) := by
      simp only [List.getD_eq_getElem?_getD, List.getElem?_map]
      rw [List.getElem?_eq_getElem (by omega)]
      rfl
    simp only [clusT, e, begC_clsC, clusT_map l k (by omega)]
theorem clusL_map (l : List Int) : clusL (l.map clsC) = clusL l := by
  unfold clusL
  rw [List.length_map]
  exact clusT_map l _ (Nat.le_refl _)

theorem take_map_succ {f : Int → Int} {l : List Int} {j : Nat} (h : j < l.length) : (l.take (j + 1)).map f = (l.take j).map f ++ [f (l.getD j 0)] := by
  rw [List.take_add_one, List.getElem?_eq_getElem h, List.map_append]
  congr 1
  simp [List.getD_eq_getElem?_getD, h]

set_option maxRecDepth 100000 in
set_option maxHeartbeats 1000000 in
theorem Clusters_ok {w : World} {B : Nat} {A : Option Addr} {c : Nat} {l : List Int} (h : RdInts w B .u8 A l) (hl : l.length ≤ 1048576) :
    Calls Try.prog 15 #[.slice A l.length c] w fun r w' => ∃ v, r = .returned v ∧ Ints w' w.heap.size 3 .i64 v (clusL l) ∧ Below w.heap.size w w' := by
  go_enter Try.func15, Try.ntmps15
  go_wp2
  go_loopg [3, 8] l.length (fun gk ov iv wr => ∃ j : Nat, j + gk = l.length ∧ iv = .int .i64 j ∧ Ints wr w.heap.size 3 .i64 ov (clusT l j) ∧ Below w.heap.size w wr)
  case atStart => exact ⟨0, by omega, rfl, Ints.nil _ _ _ _, Below.refl _ _⟩
  case round =>
    obtain ⟨j, hj, rfl, I, b⟩ := hrel
    have HJ := Lib.hid hj
    clear hj
    by_cases hlt : j < l.length
    · obtain ⟨ab, off, rfl, _, _, hc⟩ := (h.below b (.inr (Nat.le_refl _))).at_ hlt
      have hN : clusT l (j + 1) = if j = 0 ∨ begC (l.getD j 0) = true then clusT l j ++ [(j : Int)] else clusT l j := rfl
      have hlen := clusT_length l j
      generalize l.getD j 0 = x at hc hN
      generalize hC : clusT l j = cs at I hN hlen
      have HN := Lib.hid hN
      have HL := Lib.hid hlen
      clear hN hlen hC
      have hbs := b.size
      by_cases hj0 : j = 0
      · have hj1 : ((j : Int) == 0) = true := by simp [hj0]
        have HJ0 := Lib.hid hj0
        clear hj0
        go_wp2_with (at_builtin; go_must (refine wpList_appI ei24 rfl rfl rfl (I.alloc _) rfl (Blk.at_ (by simp)) ?_ ?_ ?_ ?_))
        · have := HL.out; unfold maxLen; omega
        · have := HL.out; omega
        · first | omega | (simp; omega)
        intro g cap w2 I2 g2 hg
        go_wp2
        go_roundg (l.length - (j + 1))
        case rel => exact ⟨j + 1, by have := HJ.out; omega, by go_num, by rw [HN.out, if_pos (.inl HJ0.out)]; exact I2, (b.alloc hbs _).grown g2 (by simp; omega) (fun k hk => (I.lt k hk).1)⟩
        case measure => have := HJ.out; omega
      · have hj1 : ((j : Int) == 0) = false := by simp; omega
        by_cases hb : begC x = true
        · go_wp2_with (first
            | (go_at_call 50; refine (begins_ok _ _).mono ?_; rintro r1 w1 ⟨rfl, rfl⟩)
            | (at_builtin; go_must (refine wpList_appI ei24 rfl rfl rfl (I.alloc _) rfl (Blk.at_ (by simp)) ?_ ?_ ?_ ?_)))
          · have := HL.out; unfold maxLen; omega
          · have := HL.out; omega
          · first | omega | (simp; omega)
          intro g cap w2 I2 g2 hg
          go_wp2
          go_roundg (l.length - (j + 1))
          case rel => exact ⟨j + 1, by have := HJ.out; omega, by go_num, by rw [HN.out, if_pos (.inr hb)]; exact I2, (b.alloc hbs _).grown g2 (by simp; omega) (fun k hk => (I.lt k hk).1)⟩
          case measure => have := HJ.out; omega
        · have hb' : begC x = false := by simpa using hb
          go_wp2_with (go_at_call 50; refine (begins_ok _ _).mono ?_; rintro r1 w1 ⟨rfl, rfl⟩)
          go_roundg (l.length - (j + 1))
          case rel => exact ⟨j + 1, by have := HJ.out; omega, by go_num, by rw [HN.out, if_neg (fun e => e.elim hj0 hb)]; exact I, b⟩
          case measure => have := HJ.out; omega
    · have hjl : j = l.length := by have := HJ.out; omega
      subst hjl
      go_wp2
      go_ret
      exact ⟨_, rfl, I, b⟩

set_option maxRecDepth 100000 in
set_option maxHeartbeats 1000000 in
theorem rClusters_ok {w : World} {B : Nat} {A : Option Addr} {c : Nat} {l : List Int} (h : RdInts w B .u8 A l) (hl : l.length ≤ 1048576) :
    Calls Try.prog 17 #[.slice A l.length c] w fun r w' => ∃ v, r = .returned v ∧ Ints w' w.heap.size 3 .i64 v (clusL l) ∧ Below w.heap.size w w' := by
  go_enter Try.func17, Try.ntmps17
  go_wp2
  go_loopg [3, 4] l.length (fun gk ov iv wr => ∃ j : Nat, j + gk = l.length ∧ iv = .int .i64 j ∧ Ints wr w.heap.size 3 .i64 ov (clusT l j) ∧ Below w.heap.size w wr)
  case atStart => exact ⟨0, by omega, rfl, Ints.nil _ _ _ _, Below.refl _ _⟩
  case round =>
    obtain ⟨j, hj, rfl, I, b⟩ := hrel
    have HJ := Lib.hid hj
    clear hj
    by_cases hlt : j < l.length
    · obtain ⟨ab, off, rfl, _, _, hc⟩ := (h.below b (.inr (Nat.le_refl _))).at_ hlt
      have hN : clusT l (j + 1) = if j = 0 ∨ begC (l.getD j 0) = true then clusT l j ++ [(j : Int)] else clusT l j := rfl
      have hlen := clusT_length l j
      generalize l.getD j 0 = x at hc hN
      generalize hC : clusT l j = cs at I hN hlen
      have HN := Lib.hid hN
      have HL := Lib.hid hlen
      clear hN hlen hC
      have hbs := b.size
      by_cases hj0 : j = 0
      · have hj1 : ((j : Int) == 0) = true := by simp [hj0]
        have HJ0 := Lib.hid hj0
        clear hj0
        go_wp2_with (at_builtin; go_must (refine wpList_appI ei24 rfl rfl rfl (I.alloc _) rfl (Blk.at_ (by simp)) ?_ ?_ ?_ ?_))
        · have := HL.out; unfold maxLen; omega
        · have := HL.out; omega
        · first | omega | (simp; omega)
        intro g cap w2 I2 g2 hg
        go_wp2
        go_roundg (l.length - (j + 1))
        case rel => exact ⟨j + 1, by have := HJ.out; omega, by go_num, by rw [HN.out, if_pos (.inl HJ0.out)]; exact I2, (b.alloc hbs _).grown g2 (by simp; omega) (fun k hk => (I.lt k hk).1)⟩
        case measure => have := HJ.out; omega
      · have hj1 : ((j : Int) == 0) = false := by simp; omega
        by_cases hb : begC x = true
        · go_wp2_with (first
            | (go_at_call 52; refine (rloose_ok _ _).mono ?_; rintro r1 w1 ⟨rfl, rfl⟩)
            | (at_builtin; go_must (refine wpList_appI ei24 rfl rfl rfl (I.alloc _) rfl (Blk.at_ (by simp)) ?_ ?_ ?_ ?_)))
          · have := HL.out; unfold maxLen; omega
          · have := HL.out; omega
          · first | omega | (simp; omega)
          intro g cap w2 I2 g2 hg
          go_wp2
          go_roundg (l.length - (j + 1))
          case rel => exact ⟨j + 1, by have := HJ.out; omega, by go_num, by rw [HN.out, if_pos (.inr hb)]; exact I2, (b.alloc hbs _).grown g2 (by simp; omega) (fun k hk => (I.lt k hk).1)⟩
          case measure => have := HJ.out; omega
        · have hb' : begC x = false := by simpa using hb
          go_wp2_with (go_at_call 52; refine (rloose_ok _ _).mono ?_; rintro r1 w1 ⟨rfl, rfl⟩)
          go_roundg (l.length - (j + 1))
          case rel => exact ⟨j + 1, by have := HJ.out; omega, by go_num, by rw [HN.out, if_neg (fun e => e.elim hj0 hb)]; exact I, b⟩
          case measure => have := HJ.out; omega
    · have hjl : j = l.length := by have := HJ.out; omega
      subst hjl
      go_wp2
      go_ret
      exact ⟨_, rfl, I, b⟩

set_option maxRecDepth 100000 in
set_option maxHeartbeats 1000000 in
theorem rClasses_ok {w : World} {B : Nat} {A : Option Addr} {c : Nat} {l : List Int} (h : RdInts w B .u8 A l) (hl : l.length ≤ 1048576) :
    Calls Try.prog 18 #[.slice A l.length c] w fun r w' => ∃ v, r = .returned v ∧ Ints w' w.heap.size 38 .u8 v (l.map clsC) ∧ Below w.heap.size w w' := by
  go_enter Try.func18, Try.ntmps18
  go_wp2
  go_loopg [3, 4] l.length (fun gk ov iv wr => ∃ j : Nat, j + gk = l.length ∧ iv = .int .i64 j ∧ Ints wr w.heap.size 38 .u8 ov ((l.take j).map clsC) ∧ Below w.heap.size w wr)
  case atStart => exact ⟨0, by omega, rfl, Ints.nil _ _ _ _, Below.refl _ _⟩
  case round =>
    obtain ⟨j, hj, rfl, I, b⟩ := hrel
    have HJ := Lib.hid hj
    clear hj
    by_cases hlt : j < l.length
    · obtain ⟨ab, off, rfl, _, _, hc⟩ := (h.below b (.inr (Nat.le_refl _))).at_ hlt
      have hN : (l.take (j + 1)).map clsC = (l.take j).map clsC ++ [clsC (l.getD j 0)] := take_map_succ hlt
      have hlen : ((l.take j).map clsC).length ≤ j := by simp; omega
      generalize l.getD j 0 = x at hc hN
      generalize (l.take j).map clsC = cs at I hN hlen
      have HN := Lib.hid hN
      have HL := Lib.hid hlen
      clear hN hlen
      have hbs := b.size
      go_wp2_with (first
        | (go_at_call 53; refine (rClass_ok _ _).mono ?_; rintro r1 w1 ⟨rfl, rfl⟩)
        | (at_builtin; go_must (refine wpList_appI ei22 rfl rfl rfl (I.alloc _) rfl (Blk.at_ (by simp)) ?_ ?_ ?_ ?_)))
      · have := HL.out; unfold maxLen; omega
      · have := HL.out; omega
      · first | omega | (simp; omega)
      intro g cap w2 I2 g2 hg
      go_wp2
      go_roundg (l.length - (j + 1))
      case rel => exact ⟨j + 1, by have := HJ.out; omega, by go_num, by rw [HN.out]; exact I2, (b.alloc hbs _).grown g2 (by simp; omega) (fun k hk => (I.lt k hk).1)⟩
      case measure => have := HJ.out; omega
    · have hjl : j = l.length := by have := HJ.out; omega
      subst hjl
      rw [List.take_length] at I
      go_wp2
      go_ret
      exact ⟨_, rfl, I, b⟩
end Go.Proofs.Ythifeccmbojcdaa
