/- The law's own 'inner' and 'has' walked. -/
import Derived.Test.YtpdackbcnbhppaaX6
import Derived.Test.YtpdackbcnbhppaaX10
import Derived.Test.YtpdackbcnbhppaaT10
namespace Go.Proofs.Ytpdackbcnbhppaa
open Go.RowKit
attribute [local go_sem] Oper.semAt_some

set_option maxRecDepth 100000 in
set_option maxHeartbeats 1000000 in
theorem inner_ok (w : World) (c : Int) : Calls Try.prog 23 #[.int .u8 c] w fun r w' => r = .returned (.bool (innC c)) ∧ w = w' := by
  have e : innC c = (c != 11 && c != 23 && c != 20 && c != 21 && c != 22) := by
    unfold innC begI
    simp only [bne, Bool.not_or, Bool.and_assoc]
  rw [e]
  clear e
  go_enter Try.func23, Try.ntmps23
  go_wp2
  all_goals (go_ret; exact ⟨by simp [*], rfl⟩)

/-- A row of sequences that can be read. -/
structure HasRow (w : World) (g : Nat) (ss : List Sq) : Prop where
  lt : g < w.heap.size
  at_ : ∀ i s, ss[i]? = some s → ∃ A c C d, w.cell? ⟨g, i * 5, none⟩ = some (.slice A s.pl.length c) ∧ w.cell? ⟨g, i * 5 + 1, none⟩ = some (.slice C s.cs.length d) ∧ w.cell? ⟨g, i * 5 + 2, none⟩ = some (.int .i8 s.lv) ∧
    w.cell? ⟨g, i * 5 + 3, none⟩ = some (.int .u8 s.so) ∧ w.cell? ⟨g, i * 5 + 4, none⟩ = some (.int .u8 s.eo) ∧ RdInts w w.heap.size .i64 A s.pl ∧ RdInts w w.heap.size .u8 C s.cs

set_option maxRecDepth 100000 in
set_option maxHeartbeats 2000000 in
theorem has_ok {w : World} {g n c a : Nat} {ss : List Sq} (hn : n = ss.length) (h : HasRow w g ss) (hx : ∃ s ∈ ss, (a : Int) ∈ s.pl) (hl : ∀ s ∈ ss, s.pl.length ≤ 4000) (hn4 : n ≤ 4000) :
    Calls Try.prog 24 #[.slice (some ⟨g, 0, none⟩) n c, .int .i64 a] w fun r w' => ∃ s A c C d, s ∈ ss ∧ (a : Int) ∈ s.pl ∧ r = .returned (.tuple #[.agg (s.is (.slice A s.pl.length c) (.slice C s.cs.length d)), .bool true]) ∧
      RdInts w w.heap.size .i64 A s.pl ∧ RdInts w w.heap.size .u8 C s.cs ∧ Below w.heap.size w w' := by
  have HN := Lib.hid hn
  have HX := Lib.hid hx
  have HL := Lib.hid hl
  clear hn hx hl
  have hgl := h.lt
  obtain ⟨W0, hW0⟩ : ∃ W0, w.alloc (.cells #[.slice none 0 0, .slice none 0 0, .int .i8 0, .int .u8 0, .int .u8 0] 35) = W0 := ⟨_, rfl⟩
  have a0 : Below w.heap.size w W0 := by rw [← hW0]; exact (Below.refl _ w).alloc (Nat.le_refl _) _
  have R0 : Blk W0 w.heap.size 35 #[.slice none 0 0, .slice none 0 0, .int .i8 0, .int .u8 0, .int .u8 0] := by rw [← hW0]; exact Blk.new w 35 _
  go_enter Try.func24, Try.ntmps24
  go_upto_region 1 with (fail)
  clear hW0
  go_wp2
  go_loopg [6] n (fun gk iv wr => ∃ (i d : Nat), i + gk = n ∧ iv = .int .i64 i ∧ (∀ j, j < i → ¬ (a : Int) ∈ (ss.getD j default).pl) ∧ wr = W0.drewN d)
  case atStart => exact ⟨0, 0, by omega, rfl, by omega, rfl⟩
  case round =>
    obtain ⟨i, d, hi, rfl, hno, rfl⟩ := hrel
    have HI := Lib.hid hi
    have HNO := Lib.hid hno
    clear hi hno
    by_cases hlt : i < n
    · obtain ⟨s, hs⟩ : ∃ s, ss[i]? = some s := ⟨_, List.getElem?_eq_getElem (by have := HN.out; omega)⟩
      obtain ⟨A, c1, C, d1, q0, q1, q2, q3, q4, rp, rc⟩ := h.at_ i s hs
      have hsd : ss.getD i default = s := by rw [List.getD_eq_getElem?_getD, hs]; rfl
      have hmem : s ∈ ss := List.mem_of_getElem? hs
      have hl4 := HL.out s hmem
      have a1 : ∀ m, Below w.heap.size w (W0.drewN m) := fun m => ⟨a0.os, a0.tape, a0.output, a0.size, a0.block⟩
      have KEEP : ∀ m, (W0.drewN m).cell? ⟨g, i * 5, none⟩ = some (.slice A s.pl.length c1) ∧ (W0.drewN m).cell? ⟨g, i * 5 + 1, none⟩ = some (.slice C s.cs.length d1) ∧ (W0.drewN m).cell? ⟨g, i * 5 + 2, none⟩ = some (.int .i8 s.lv) ∧ (W0.drewN m).cell? ⟨g, i * 5 + 3, none⟩ = some (.int .u8 s.so) ∧ (W0.drewN m).cell? ⟨g, i * 5 + 4, none⟩ = some (.int .u8 s.eo) := by
        intro m
        obtain ⟨k1, -, -⟩ := bcell (a1 m)
        rw [k1 _ _ hgl, k1 _ _ hgl, k1 _ _ hgl, k1 _ _ hgl, k1 _ _ hgl]
        exact ⟨q0, q1, q2, q3, q4⟩
      have HKEEP := Lib.hid KEEP
      have HSD := Lib.hid hsd
      obtain ⟨pl, cs, slv, so, eo⟩ := s
      simp only at q0 q1 q2 q3 q4 rp rc hl4 HKEEP
      obtain ⟨np, hnp⟩ : ∃ np, pl.length = np := ⟨_, rfl⟩
      rw [hnp] at HKEEP hl4
      have HNP := Lib.hid hnp
      obtain ⟨nc, hnc⟩ : ∃ nc, cs.length = nc := ⟨_, rfl⟩
      rw [hnc] at HKEEP
      have HNC := Lib.hid hnc
      have HS := Lib.hid hs
      clear KEEP q0 q1 q2 q3 q4 hsd hnp hnc hs
      go_wp2
      go_loopg [7] np (fun gk kv wr => ∃ (k d : Nat), k + gk = np ∧ kv = .int .i64 k ∧ (∀ j, j < k → pl.getD j 0 ≠ (a : Int)) ∧ wr = W0.drewN d)
      case atStart => exact ⟨0, d, by omega, rfl, by omega, rfl⟩
      case round =>
        obtain ⟨k, d2, hk, rfl, hk2, rfl⟩ := hrel
        have HK := Lib.hid hk
        have HK2 := Lib.hid hk2
        clear hk hk2
        by_cases hlk : k < np
        · have rp2 := rp.below (a1 d2) (.inr (Nat.le_refl _))
          obtain ⟨pb, po, rfl, _, _, kk⟩ := rp2.at_ (i := k) (by have := HNP.out; omega)
          obtain ⟨x, hx⟩ : ∃ x, pl.getD k 0 = x := ⟨_, rfl⟩
          rw [hx] at kk
          obtain ⟨z0, z1, z2, z3, z4⟩ := HKEEP.out d2
          rcases heq : (x == (a : Int)) with _ | _
          · have hx2 : pl.getD k 0 ≠ (a : Int) := by
              rw [hx]; simpa using heq
            have hk3 : ∀ j, j < k + 1 → pl.getD j 0 ≠ (a : Int) := fun j hj => by
              rcases Nat.lt_or_ge j k with h1 | h1
              · exact HK2.out j h1
              · have : j = k := by omega
                subst this; exact hx2
            have HK3 := Lib.hid hk3
            clear hx hx2 hk3
            go_wp2
            go_roundg (np - (k + 1))
            case rel => exact ⟨k + 1, _, by have := HK.out; omega, by go_num, HK3.out, rfl⟩
            case measure => have := HK.out; omega
          · have hxa : x = (a : Int) := by simpa using heq
            have hm : (a : Int) ∈ pl := by rw [← hxa, ← hx]; exact getD_mem0 _ (by have := HNP.out; omega)
            clear hx hxa
            obtain ⟨r0, r1, r2, r3, r4, rf, rl⟩ := (R0.drewN d2).c5
            go_wp2
            have Br := (((((R0.drewN d2).set_ 0 (.slice (some ⟨pb, po, none⟩) np c1)).set_ 1 (.slice C nc d1)).set_ 2 (.int .i8 slv)).set_ 3 (.int .u8 so)).set_ 4 (.int .u8 eo)
            have F3 : Frm (fun k => k = w.heap.size) (W0.drewN d2) ((((((W0.drewN d2).setCell ⟨w.heap.size, 0, none⟩ (.slice (some ⟨pb, po, none⟩) np c1)).setCell ⟨w.heap.size, 1, none⟩ (.slice C nc d1)).setCell ⟨w.heap.size, 2, none⟩ (.int .i8 slv)).setCell ⟨w.heap.size, 3, none⟩ (.int .u8 so)).setCell ⟨w.heap.size, 4, none⟩ (.int .u8 eo)) :=
              (((((Frm.refl (fun k => k = w.heap.size) (W0.drewN d2)).set rfl _).set rfl _).set rfl _).set rfl _).set rfl _
            refine bodyPost_ret (results_row1 rfl _ _ w.heap.size 35 #[.slice (some ⟨pb, po, none⟩) np c1, .slice C nc d1, .int .i8 slv, .int .u8 so, .int .u8 eo] _ rfl (by simpa using Br) Try.underlying35 rfl rfl) rfl ?_
            refine ⟨⟨pl, cs, slv, so, eo⟩, some ⟨pb, po, none⟩, c1, C, d1, hmem, hm, ?_, rp, rc, (a1 d2).trans (F3.below (a1 d2).size (fun k hk e => by omega))⟩
            rw [← HNP.out, ← HNC.out]; rfl
        · have hke : k = np := by have := HK.out; omega
          subst hke
          obtain ⟨z0, z1, z2, z3, z4⟩ := HKEEP.out d2
          have hno3 : ∀ j, j < i + 1 → ¬ (a : Int) ∈ (ss.getD j default).pl := fun j hj => by
            rcases Nat.lt_or_ge j i with h1 | h1
            · exact HNO.out j h1
            · have : j = i := by omega
              subst this
              rw [HSD.out]
              intro hm
              obtain ⟨q, hq, eq⟩ := List.mem_iff_getElem.1 hm
              have hq : q < pl.length := hq
              refine HK2.out q (by have := HNP.out; omega) ?_
              rw [List.getD_eq_getElem?_getD, List.getElem?_eq_getElem hq]; exact eq
          have HNO3 := Lib.hid hno3
          clear hno3
          go_wp2
          go_roundg (n - (i + 1))
          case rel => exact ⟨i + 1, _, by have := HI.out; omega, by go_num, HNO3.out, rfl⟩
          case measure => have := HI.out; omega
    · exfalso
      have hie : i = n := by have := HI.out; omega
      obtain ⟨s, hs, hm⟩ := HX.out
      obtain ⟨j, hj, rfl⟩ := List.mem_iff_getElem.1 hs
      refine HNO.out j (by have := HN.out; omega) ?_
      rw [List.getD_eq_getElem?_getD, List.getElem?_eq_getElem hj]; exact hm
end Go.Proofs.Ytpdackbcnbhppaa
