/- As many opening brackets as closing ones. -/
import Derived.Test.YtpdackbcnbhppaaR21
import Derived.Laws.BitsAll
namespace Go.Proofs.Ytpdackbcnbhppaa
open Go.RowKit
attribute [local go_sem] Oper.semAt_some

theorem ei53 : ElemI Try.prog 53 21 .i32 4 := ElemI.mk' Try.underlying53 (by kernel_rfl)
theorem wrap_small (n : Int) (h0 : 0 ≤ n) (h1 : n < 9223372036854775808) : IntKind.i64.wrap n = n := by
  have e : IntKind.i64.bits = 64 := rfl
  unfold IntKind.wrap
  simp only [e]
  have h2 : n % 2 ^ 64 = n := Int.emod_eq_of_lt h0 (by omega)
  rw [h2, if_neg]
  simp
  omega
theorem bits_and_low (z : Int) (j : Nat) (hj : j ≤ 62) : bits .and .i64 z ((2 ^ j - 1 : Nat) : Int) = z % ((2 ^ j : Nat) : Int) := by
  have hp : 2 ^ j ≤ 2 ^ 62 := Nat.pow_le_pow_right (by omega) hj
  have hp0 : 0 < 2 ^ j := Nat.pow_pos (by omega)
  show IntKind.i64.wrap (((BitVec.ofInt 64 z &&& BitVec.ofInt 64 ((2 ^ j - 1 : Nat) : Int)).toNat : Nat) : Int) = _
  rw [BitVec.toNat_and, BitVec.toNat_ofInt, BitVec.ofInt_natCast, BitVec.toNat_ofNat, Nat.mod_eq_of_lt (a := 2 ^ j - 1) (by omega), Nat.and_two_pow_sub_one_eq_mod]
  have hlt : (z % ((2 ^ 64 : Nat) : Int)).toNat % 2 ^ j < 2 ^ j := Nat.mod_lt _ hp0
  rw [wrap_small _ (by omega) (by omega)]
  have hz : 0 ≤ z % ((2 ^ 64 : Nat) : Int) := Int.emod_nonneg _ (by decide)
  rw [Int.natCast_emod, Int.toNat_of_nonneg hz]
  refine Int.emod_emod_of_dvd z ?_
  exact_mod_cast Nat.pow_dvd_pow 2 (show j ≤ 64 by omega)
theorem and127 (z : Int) : bits .and .i64 z 127 = z % 128 := bits_and_low z 7 (by omega)
theorem and1 (z : Int) : bits .and .i64 z 1 = z % 2 := bits_and_low z 1 (by omega)

set_option maxRecDepth 100000 in
set_option maxHeartbeats 1000000 in
theorem many_ok (w : World) {n : Nat} (r : Int) (hn : n ≤ 1048576) : Calls Try.prog 37 #[.int .i64 n, .int .i32 r] w fun e w' => ∃ v, e = .returned v ∧ Ints w' w.heap.size 21 .i32 v (List.replicate n r) ∧ Below w.heap.size w w' := by
  go_enter Try.func37, Try.ntmps37
  go_wp2
  go_loopg [5, 6] n (fun gk ov iv wr => ∃ i : Nat, i + gk = n ∧ iv = .int .i64 i ∧ Ints wr w.heap.size 21 .i32 ov (List.replicate i r) ∧ Below w.heap.size w wr)
  case atStart => exact ⟨0, by omega, rfl, Ints.nil _ _ _ _, Below.refl _ _⟩
  case round =>
    obtain ⟨i, hi, rfl, I, bb⟩ := hrel
    have HI := Lib.hid hi
    clear hi
    have hs := bb.size
    obtain ⟨A, c, hv, _, _, _⟩ := I.val
    rw [List.length_replicate] at hv
    subst hv
    by_cases hlt : i < n
    · go_wp2_with (at_builtin; go_must (refine wpList_appI ei53 rfl rfl rfl (I.alloc _) rfl (Blk.at_ (by simp)) ?_ ?_ ?_ ?_))
      · rw [List.length_replicate]; unfold maxLen; omega
      · rw [List.length_replicate]; omega
      · simp; omega
      intro g cap w3 I3 g3 hg
      have b3 : Below w.heap.size w w3 := (bb.alloc hs _).grown g3 (by simp; omega) (fun k e => (I.lt k e).1)
      rw [← List.replicate_succ'] at I3
      go_wp2
      go_roundg (n - (i + 1))
      case rel => exact ⟨i + 1, by have := HI.out; omega, by go_num, I3, b3⟩
      case measure => have := HI.out; omega
    · have hin : i = n := by have := HI.out; omega
      subst hin
      go_wp2
      go_ret
      exact ⟨_, rfl, I, bb⟩

/-- The text. -/
def roomT (n : Nat) : List Int := [40, 41] ++ List.replicate n 91 ++ List.replicate n 93 ++ [40, 41]
def roomD (n : Nat) : List (Int × Int) := if n ≤ 63 then (0, 1) :: ((List.range n).map (fun (k : Nat) => ((2 + k : Int), (2 * n + 1 - k : Int))) ++ [((2 * n + 2 : Int), (2 * n + 3 : Int))]) else [(0, 1)]
theorem room_len (n : Nat) : (roomT n).length = 2 * n + 4 := by unfold roomT; simp; omega
theorem ids_get {m k : Nat} (h : k < m) : (idsL m).getD k 0 = (k : Int) := by unfold idsL; rw [List.getD_eq_getElem?_getD, List.getElem?_map, List.getElem?_range h]; rfl
theorem rep_get {m k : Nat} {x : Int} (h : k < m) : (List.replicate m x).getD k 0 = x := by rw [List.getD_eq_getElem?_getD, List.getElem?_replicate, if_pos h]; rfl
/-- The sequence that is all of a text of so many, of one class. -/
def allS (m : Nat) : Sq := ⟨idsL m, List.replicate m 14, 0, 1, 1⟩
theorem all_chk {m : Nat} (h : 0 < m) : chkL (allS m) = 0 := by
  unfold chkL
  have h1 : (allS m).pl.length = m := idsL_length m
  have h2 : (allS m).cs.length = m := by simp [allS]
  rw [if_neg (by rw [h1, h2]; rintro (h3 | h3 | h3 | h3 | h3 | h3); · omega
                 · exact h3 rfl
                 · exact absurd h3 (by show ¬ ((0 : Int) < 0); decide)
                 · exact absurd h3 (by show ¬ ((126 : Int) < 0); decide)
                 · exact absurd h3 (by show ¬ (edgeI 1 = false); decide)
                 · exact absurd h3 (by show ¬ (edgeI 1 = false); decide)), if_neg]
  intro ha
  obtain ⟨i, hi, hc⟩ := List.any_eq_true.1 ha
  have hi : i < m := by simpa [allS, idsL_length] using hi
  unfold chkAt lastAt at hc
  simp only [allS, ids_get hi, rep_get hi] at hc
  rcases i with _ | i
  · simp at hc; exact absurd hc (by decide)
  · rw [if_neg (by omega), show i + 1 - 1 = i by omega, ids_get (show i < m by omega)] at hc
    have h1 : decide (((i + 1 : Nat) : Int) ≤ (i : Int)) = false := by simp; omega
    rw [h1] at hc
    exact absurd hc (by decide)
theorem all_may {m : Nat} (h : 0 < m) : mayL m (allS m) = 0 := by
  rw [may_two (all_chk h), if_neg]
  rintro ⟨i, hi, h2⟩
  have hi : i < m := by simpa [allS, idsL_length] using hi
  have e : (allS m).pl.getD i 0 = (i : Int) := ids_get hi
  rw [e] at h2
  omega
theorem all_mk {rs : List Int} {m k : Nat} (h : k < m) : mk1 propsL rs (allS m) k = let r := runC (rs.getD k 0); if (brL propsL r).2 = 1 then [⟨k, 1, twL propsL (brL propsL r).1⟩] else if (brL propsL r).2 = 2 then [⟨k, 2, twL propsL r⟩] else [] := by
  unfold mk1
  simp only [allS, ids_get h, rep_get h, if_true, Int.toNat_natCast]
theorem room_get (n : Nat) : (roomT n).getD 0 0 = 40 ∧ (roomT n).getD 1 0 = 41 ∧ (∀ j, j < n → (roomT n).getD (2 + j) 0 = 91) ∧ (∀ j, j < n → (roomT n).getD (2 + n + j) 0 = 93) ∧ (roomT n).getD (2 * n + 2) 0 = 40 ∧ (roomT n).getD (2 * n + 3) 0 = 41 := by
  unfold roomT
  refine ⟨rfl, rfl, fun j hj => ?_, fun j hj => ?_, ?_, ?_⟩
  · rw [List.getD_eq_getElem?_getD, List.getElem?_append_left (by simp; omega), List.getElem?_append_left (by simp; omega), List.getElem?_append_right (by simp), List.getElem?_replicate, if_pos (by simp; omega)]; rfl
  · rw [List.getD_eq_getElem?_getD, List.getElem?_append_left (by simp; omega), List.getElem?_append_right (by simp; omega), List.getElem?_replicate, if_pos (by simp; omega)]; rfl
  · rw [List.getD_eq_getElem?_getD, List.getElem?_append_right (by simp; omega)]
    have e : 2 * n + 2 - ([40, 41] ++ List.replicate n (91 : Int) ++ List.replicate n 93).length = 0 := by simp; omega
    rw [e]; rfl
  · rw [List.getD_eq_getElem?_getD, List.getElem?_append_right (by simp; omega)]
    have e : 2 * n + 3 - ([40, 41] ++ List.replicate n (91 : Int) ++ List.replicate n 93).length = 1 := by simp; omega
    rw [e]; rfl
theorem all_step {rs : List Int} {m k : Nat} {x : Int} (h : k < m) (hx : rs.getD k 0 = x) : (x = 40 → fdT propsL rs (allS m) (k + 1) = stpM (fdT propsL rs (allS m) k) ⟨k, 1, 41⟩) ∧ (x = 91 → fdT propsL rs (allS m) (k + 1) = stpM (fdT propsL rs (allS m) k) ⟨k, 1, 93⟩) ∧
    (x = 41 → fdT propsL rs (allS m) (k + 1) = stpM (fdT propsL rs (allS m) k) ⟨k, 2, 41⟩) ∧ (x = 93 → fdT propsL rs (allS m) (k + 1) = stpM (fdT propsL rs (allS m) k) ⟨k, 2, 93⟩) := by
  refine ⟨?_, ?_, ?_, ?_⟩ <;> (rintro rfl; rw [fdT_succ, all_mk h, hx]; rfl)
/-- The opening brackets on the pile. -/
def roomO (j : Nat) : List (Int × Int) := (List.range j).map (fun (i : Nat) => ((2 + i : Int), (93 : Int)))
theorem roomO_len (j : Nat) : (roomO j).length = j := by simp [roomO]
theorem roomO_succ (j : Nat) : roomO (j + 1) = roomO j ++ [((2 + j : Int), (93 : Int))] := by unfold roomO; rw [List.range_succ, List.map_append]; rfl
theorem roomO_take {j : Nat} : ∀ {p : Nat}, p ≤ j → (roomO j).take p = roomO p := by
  intro p hp
  unfold roomO
  rw [← List.map_take, List.take_range, Nat.min_eq_left hp]
theorem roomO_get {j p : Nat} (h : p < j) : (roomO j).getD p (0, 0) = ((2 + p : Int), (93 : Int)) := by
  unfold roomO; rw [List.getD_eq_getElem?_getD, List.getElem?_map, List.getElem?_range h]; rfl
theorem room_start (n : Nat) : fdT propsL (roomT n) (allS (2 * n + 4)) 2 = ⟨[], [(0, 1)], false⟩ := by
  obtain ⟨g0, g1, _⟩ := room_get n
  rw [(all_step (by omega) g1).2.2.1 rfl, (all_step (by omega) g0).1 rfl]; rfl
theorem room_open (n : Nat) : ∀ j, j ≤ n → j ≤ 63 → fdT propsL (roomT n) (allS (2 * n + 4)) (2 + j) = ⟨roomO j, [(0, 1)], false⟩
  | 0, _, _ => room_start n
  | j + 1, h, h2 => by
    obtain ⟨_, _, g, _⟩ := room_get n
    rw [← Nat.add_assoc, (all_step (by omega) (g j (by omega))).2.1 rfl, room_open n j (by omega) (by omega)]
    unfold stpM opL opV
    have e : ¬ 63 ≤ (roomO j).length := by rw [roomO_len]; omega
    simp only [Bool.false_eq_true, if_false, if_true, e, decide_false, Bool.or_false, roomO_succ]
    simp
theorem room_over (n : Nat) (h : 64 ≤ n) : fdT propsL (roomT n) (allS (2 * n + 4)) (2 * n + 4) = ⟨[], [(0, 1)], true⟩ := by
  obtain ⟨_, _, g, _⟩ := room_get n
  have h1 : fdT propsL (roomT n) (allS (2 * n + 4)) 66 = ⟨[], [(0, 1)], true⟩ := by
    rw [(all_step (k := 65) (by omega) (g 63 (by omega))).2.1 rfl, room_open n 63 (by omega) (by omega)]
    unfold stpM opL opV
    have e : 63 ≤ (roomO 63).length := by rw [roomO_len]; omega
    simp only [Bool.false_eq_true, if_false, if_true, e, decide_true, Bool.or_true]
  have h2 := fdT_over (ch := propsL) (rs := roomT n) (s := allS (2 * n + 4)) (k := 66) (by rw [h1]) (2 * n + 4 - 66)
  rw [show 66 + (2 * n + 4 - 66) = 2 * n + 4 by omega, h1] at h2
  exact h2
def roomF (n j : Nat) : List (Int × Int) := [(0, 1)] ++ (List.range j).map (fun (i : Nat) => ((n + 1 - i : Int), (2 + n + i : Int)))
theorem room_close (n : Nat) (h63 : n ≤ 63) : ∀ j, j ≤ n → fdT propsL (roomT n) (allS (2 * n + 4)) (2 + n + j) = ⟨roomO (n - j), roomF n j, false⟩
  | 0, _ => by rw [show 2 + n + 0 = 2 + n from rfl, room_open n n (Nat.le_refl _) h63]; rfl
  | j + 1, h => by
    obtain ⟨_, _, _, g, _⟩ := room_get n
    rw [← Nat.add_assoc, (all_step (by omega) (g j (by omega))).2.2.2 rfl, room_close n h63 j (by omega)]
    obtain ⟨p, hp⟩ : ∃ p, n - j = p + 1 := ⟨n - j - 1, by omega⟩
    rw [hp, show n - (j + 1) = p by omega]
    have hs : scanK (roomO (p + 1)) 93 (roomO (p + 1)).length = some p := by
      rw [roomO_len]; unfold scanK; rw [roomO_get (by omega), if_pos rfl]
    unfold stpM clL clF
    simp only [Bool.false_eq_true, if_false, hs, show ¬ ((2 : Int) = 1) by decide, roomO_take (show p ≤ p + 1 by omega), roomO_get (show p < p + 1 by omega)]
    unfold roomF
    rw [List.range_succ, List.map_append, ← List.append_assoc]
    congr 3
    simp
    omega
set_option maxRecDepth 100000 in
theorem room_sort : ∀ n : Fin 64, ssort (roomF n.1 n.1 ++ [(((2 * n.1 + 2 : Nat) : Int), ((2 * n.1 + 3 : Nat) : Int))]) = roomD n.1 := by decide +kernel
theorem room_find {n : Nat} (h : n ≤ 127) : findF propsL (roomT n) (allS (2 * n + 4)) = roomD n := by
  unfold findF
  rw [room_len, if_pos (all_may (by omega)), show (allS (2 * n + 4)).pl.length = 2 * n + 4 from idsL_length _]
  by_cases h64 : 64 ≤ n
  · rw [room_over n h64]
    unfold roomD
    rw [if_neg (by omega)]
    rfl
  · obtain ⟨_, _, _, _, g0, g1⟩ := room_get n
    have e1 : fdT propsL (roomT n) (allS (2 * n + 4)) (2 * n + 3) = ⟨[(((2 * n + 2 : Nat) : Int), 41)], roomF n n, false⟩ := by
      rw [(all_step (k := 2 * n + 2) (by omega) g0).1 rfl, show 2 * n + 2 = 2 + n + n by omega, room_close n (by omega) n (Nat.le_refl _), Nat.sub_self]
      rfl
    have e2 : fdT propsL (roomT n) (allS (2 * n + 4)) (2 * n + 4) = ⟨[], roomF n n ++ [(((2 * n + 2 : Nat) : Int), ((2 * n + 3 : Nat) : Int))], false⟩ := by
      rw [(all_step (k := 2 * n + 3) (by omega) g1).2.2.1 rfl, e1]
      rfl
    rw [e2]
    exact room_sort ⟨n, by omega⟩
theorem roomD_len (n : Nat) : (roomD n).length = if n ≤ 63 then n + 2 else 1 := by
  unfold roomD
  split <;> simp
theorem roomD_zero (n : Nat) : (roomD n).getD 0 (0, 0) = (0, 1) := by
  unfold roomD
  split <;> rfl
theorem roomD_get {n i : Nat} (h : n ≤ 63) (h1 : 1 ≤ i) (h2 : i ≤ n) : (roomD n).getD i (0, 0) = ((1 + i : Int), (2 + 2 * n - i : Int)) := by
  obtain ⟨k, rfl⟩ : ∃ k, i = k + 1 := ⟨i - 1, by omega⟩
  unfold roomD
  rw [if_pos h, List.getD_cons_succ, List.getD_eq_getElem?_getD, List.getElem?_append_left (by simp; omega), List.getElem?_map, List.getElem?_range (by omega)]
  simp only [Option.map_some, Option.getD_some, Prod.mk.injEq]
  omega

set_option maxRecDepth 100000 in
set_option maxHeartbeats 1000000 in
theorem room_walk (w : World) (z : Int) : Calls Try.prog 11 #[.int .i64 z] w fun r w' => r = .returned (.bool true) ∧ Below w.heap.size w w' := by
  obtain ⟨n, hz, hn⟩ : ∃ n : Nat, bits .and .i64 z 127 = (n : Int) ∧ n ≤ 127 := ⟨(z % 128).toNat, by rw [and127]; omega, by omega⟩
  go_enter Try.func11, Try.ntmps11
  have b0 := (Below.refl w.heap.size w).alloc (Nat.le_refl _) (.cells #[.int .i32 40, .int .i32 41] 21)
  have o0 : Ints (w.alloc (.cells #[.int .i32 40, .int .i32 41] 21)) w.heap.size 21 .i32 (.slice (some ⟨w.heap.size, 0, none⟩) 2 2) [40, 41] :=
    ⟨rfl, .inr ⟨w.heap.size, 2, _, rfl, Nat.le_refl _, Blk.new w 21 #[.int .i32 40, .int .i32 41], Nat.le_refl _, by unfold maxLen; omega, rfl, rfl⟩⟩
  go_wp2_with (first
    | (go_at_call 37
       refine (many_ok _ 91 (by omega)).mono ?_
       rintro r1 w1 ⟨v1, rfl, I1, b1⟩
       obtain ⟨A1, c1, hv1, _, _, R1⟩ := I1.val
       rw [List.length_replicate] at hv1
       subst hv1
       have o1 := o0.below b1 (Nat.le_refl _))
    | (at_builtin; go_must (refine wpList_appIs ei53 rfl rfl rfl o1 List.length_replicate.symm rfl R1 ?_ ?_ ?_ ?_)))
  · simp; unfold maxLen; omega
  · simp; omega
  · exact (b0.trans (b1.mono b0.size)).size
  intro v2 w2 I2 g2 h2
  have bb1 := b0.trans (b1.mono b0.size)
  have b2 : Below w.heap.size w w2 := bb1.grown g2 bb1.size (fun k e => (o1.lt k e).1)
  obtain ⟨A2, c2, hv2, _, _, R2⟩ := I2.val
  simp only [List.length_replicate, List.length_cons] at hv2
  subst hv2
  clear o0 o1 R1 I1 g2 h2 b0 b1 bb1
  go_wp2_with (first
    | (go_at_call 37
       refine (many_ok _ 93 (by omega)).mono ?_
       rintro r1 w3 ⟨v3, rfl, I3, b3⟩
       obtain ⟨A3, c3, hv3, _, _, R3⟩ := I3.val
       rw [List.length_replicate] at hv3
       subst hv3
       have o2 := I2.below b3 (Nat.le_refl _))
    | (at_builtin; go_must (refine wpList_appIs ei53 rfl rfl rfl o2 List.length_replicate.symm rfl R3 ?_ ?_ ?_ ?_)))
  · simp; unfold maxLen; omega
  · simp; omega
  · exact (b2.trans (b3.mono b2.size)).size
  intro v4 w4 I4 g4 h4
  have bb3 := b2.trans (b3.mono b2.size)
  have b4 : Below w.heap.size w w4 := bb3.grown g4 bb3.size (fun k e => (o2.lt k e).1)
  obtain ⟨A4, c4, hv4, _, _, R4⟩ := I4.val
  simp only [List.length_append, List.length_replicate, List.length_cons] at hv4
  subst hv4
  clear o2 R3 I3 g4 h4 bb3 b3 b2 I2 R2
  go_wp2_with (at_builtin; go_must (refine wpList_appIs (l' := [40, 41]) ei53 rfl rfl rfl (I4.alloc _) rfl rfl (Reads.blk (n := 2) (size := 1) (Blk.new w4 21 #[.int .i32 40, .int .i32 41]) rfl) ?_ ?_ ?_ ?_))
  · simp; unfold maxLen; omega
  · simp; omega
  · have := b4.size; simp; omega
  intro v5 w5 I5 g5 h5
  have b5 : Below w.heap.size w w5 := (b4.alloc b4.size _).grown g5 (by have := b4.size; simp; omega) (fun k e => (I4.lt k e).1)
  obtain ⟨A5, c5, hv5, _, _, R5⟩ := I5.val
  have hT : (40 :: 41 :: (List.replicate n 91 ++ (List.replicate n 93 ++ [40, 41])) : List Int) = roomT n := by simp [roomT]
  rw [hT] at hv5 R5 I5
  rw [room_len] at hv5
  subst hv5
  clear I4 g5 h5 b4 R4
  have hs5 := b5.size
  have HZ := Lib.hid hz
  have HT := Lib.hid hT
  clear hz hT
  go_wp2
  obtain ⟨m, hm⟩ : ∃ m, 2 * n + 4 = m := ⟨_, rfl⟩
  have HM := Lib.hid hm
  have hm2 : m ≤ 300 := by omega
  rw [hm]
  clear hm
  go_loopg [4, 5] m (fun gk ov iv wr => ∃ i : Nat, i + gk = m ∧ iv = .int .i64 i ∧ Ints wr w5.heap.size 28 .u8 ov (List.replicate i 14) ∧ Below w5.heap.size w5 wr)
  case atStart => exact ⟨0, by omega, rfl, Ints.nil _ _ _ _, Below.refl _ _⟩
  case round =>
    obtain ⟨i, hi, rfl, I, bb⟩ := hrel
    have HI := Lib.hid hi
    clear hi
    have hs := bb.size
    obtain ⟨A, c, hv, _, _, RC⟩ := I.val
    rw [List.length_replicate] at hv
    subst hv
    by_cases hlt : i < m
    · go_wp2_with (at_builtin; go_must (refine wpList_appI ei22 rfl rfl rfl (I.alloc _) rfl (Blk.at_ (by simp)) ?_ ?_ ?_ ?_))
      · rw [List.length_replicate]; unfold maxLen; omega
      · rw [List.length_replicate]; omega
      · simp; omega
      intro g cap w6 I6 g6 hg
      have b6 : Below w5.heap.size w5 w6 := (bb.alloc hs _).grown g6 (by simp; omega) (fun k e => (I.lt k e).1)
      rw [← List.replicate_succ'] at I6
      go_wp2
      go_roundg (m - (i + 1))
      case rel => exact ⟨i + 1, by have := HI.out; omega, by go_num, I6, b6⟩
      case measure => have := HI.out; omega
    · have hin : i = m := by have := HI.out; omega
      subst hin
      have bw : Below w.heap.size w wr := b5.trans (bb.mono hs5)
      have hsw := bw.size
      have R5' := R5.below bb (.inr (Nat.le_refl _))
      by_cases h63 : n ≤ 63
      · go_wp2_with (first
          | (go_at_call 38; refine (props_ok _).mono ?_; rintro r6 w6 ⟨pv, rfl, P6, b6⟩)
          | (go_at_call 39
             have b6' := bw.trans (b6.mono hsw)
             have RC6 := RC.below b6 (.inl (Nat.le_refl _))
             have CW := whole_ok (c := c) RC6 (by rw [List.length_replicate]; omega)
             rw [List.length_replicate] at CW
             refine CW.mono ?_
             rintro r7 w7 ⟨sv, rfl, S7, b7⟩)
          | (go_at_call 29
             have hs6 := b6'.size
             have P7 := P6.below b7 (.inl (Nat.le_refl _))
             have R7 := (R5'.below b6 (.inr (Nat.le_refl _))).below b7 (.inr (Nat.le_refl _))
             have b7' := b6'.trans (b7.mono hs6)
             have hs7 := b7'.size
             have CF := PFind_ok (rc := c5) P7 R7 S7 (by rw [idsL_length]; omega) (by rw [room_len]; omega)
             have hfd : findF propsL (roomT n) ⟨idsL i, List.replicate i 14, 0, 1, 1⟩ = roomD n := by rw [← HM.out]; exact room_find hn
             have hmy : mayL (roomT n).length ⟨idsL i, List.replicate i 14, 0, 1, 1⟩ = 0 := by rw [room_len, HM.out]; exact all_may (by have := HM.out; omega)
             rw [hfd, hmy, room_len, HM.out] at CF
             refine CF.mono ?_
             rintro r8 w8 ⟨v8, rfl, B8, b8⟩
             have b9 := b7'.trans (b8.mono hs7)
             have hs9 := b9.size
             obtain ⟨rfl, h0⟩ | ⟨g, cap, rfl, X, hg, hcap⟩ := B8
             · have := roomD_len n; rw [h0] at this; split at this <;> simp at this
             obtain ⟨x0, x1⟩ := X.cell (i := 0) (by rw [roomD_len]; split <;> omega)
             rw [roomD_zero] at x0 x1
             have xl := X.lt
             rw [roomD_len, if_pos h63])
          | (go_at_call 27; refine (lives_ok _).mono ?_; rintro r9 w10 ⟨rfl, b10⟩))

        have X10 := X.below b10 xl
        have hlen := roomD_len n
        rw [if_pos h63] at hlen
        have hget := fun i (h1 : 1 ≤ i) (h2 : i ≤ n) => roomD_get h63 h1 h2
        have bfin : Below w.heap.size w w10 := b9.trans (b10.mono hs9)
        clear x0 x1 RC R5 R5' I5 I bb bw b9 b10 b8 b7' b7 b6' b6 CF CW P6 P7 R7 S7 RC6 hfd hmy hcap
        go_loopg [9] n (fun gk iv wr => ∃ j : Nat, j + gk = n ∧ iv = .int .i64 ((j + 1 : Nat) : Int) ∧ wr = w10)
        case atStart => exact ⟨0, by omega, rfl, rfl⟩
        case round =>
          obtain ⟨j, hj, rfl, rfl⟩ := hrel
          have HJ := Lib.hid hj
          clear hj
          by_cases hlt : j < n
          · obtain ⟨x0, x1⟩ := X10.cell (i := j + 1) (by omega)
            rw [hget (j + 1) (by omega) (by omega)] at x0 x1
            have x2 : wr.cell? ⟨g, (j + 1) * 2, none⟩ = some (.int .i64 (1 + ((j : Int) + 1))) := x0
            have x3 : wr.cell? ⟨g, (j + 1) * 2 + 1, none⟩ = some (.int .i64 (2 + 2 * (n : Int) - ((j : Int) + 1))) := x1
            clear x0 x1
            go_wp2
            go_roundg (n - (j + 1))
            case rel => exact ⟨j + 1, by have := HJ.out; omega, by go_num, rfl⟩
            case measure => have := HJ.out; omega
          · have hjn : j = n := by have := HJ.out; omega
            subst hjn
            go_wp2
            go_ret
            exact ⟨rfl, bfin⟩
      · go_wp2_with (first
          | (go_at_call 38; refine (props_ok _).mono ?_; rintro r6 w6 ⟨pv, rfl, P6, b6⟩)
          | (go_at_call 39
             have b6' := bw.trans (b6.mono hsw)
             have RC6 := RC.below b6 (.inl (Nat.le_refl _))
             have CW := whole_ok (c := c) RC6 (by rw [List.length_replicate]; omega)
             rw [List.length_replicate] at CW
             refine CW.mono ?_
             rintro r7 w7 ⟨sv, rfl, S7, b7⟩)
          | (go_at_call 29
             have hs6 := b6'.size
             have P7 := P6.below b7 (.inl (Nat.le_refl _))
             have R7 := (R5'.below b6 (.inr (Nat.le_refl _))).below b7 (.inr (Nat.le_refl _))
             have b7' := b6'.trans (b7.mono hs6)
             have hs7 := b7'.size
             have CF := PFind_ok (rc := c5) P7 R7 S7 (by rw [idsL_length]; omega) (by rw [room_len]; omega)
             have hfd : findF propsL (roomT n) ⟨idsL i, List.replicate i 14, 0, 1, 1⟩ = roomD n := by rw [← HM.out]; exact room_find hn
             have hmy : mayL (roomT n).length ⟨idsL i, List.replicate i 14, 0, 1, 1⟩ = 0 := by rw [room_len, HM.out]; exact all_may (by have := HM.out; omega)
             rw [hfd, hmy, room_len, HM.out] at CF
             refine CF.mono ?_
             rintro r8 w8 ⟨v8, rfl, B8, b8⟩
             have b9 := b7'.trans (b8.mono hs7)
             have hs9 := b9.size
             obtain ⟨rfl, h0⟩ | ⟨g, cap, rfl, X, hg, hcap⟩ := B8
             · have := roomD_len n; rw [h0] at this; split at this <;> simp at this
             obtain ⟨x0, x1⟩ := X.cell (i := 0) (by rw [roomD_len]; split <;> omega)
             rw [roomD_zero] at x0 x1
             have xl := X.lt
             rw [roomD_len, if_neg h63])
          | (go_at_call 27; refine (lives_ok _).mono ?_; rintro r9 w10 ⟨rfl, b10⟩))

        have bfin : Below w.heap.size w w10 := b9.trans (b10.mono hs9)
        go_loopg [9] 0 (fun gk iv wr => iv = .int .i64 1 ∧ wr = w10)
        case atStart => exact ⟨rfl, rfl⟩
        case round =>
          obtain ⟨rfl, rfl⟩ := hrel
          go_wp2
          go_ret
          exact ⟨rfl, bfin⟩
end Go.Proofs.Ytpdackbcnbhppaa
