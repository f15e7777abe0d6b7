/- The reference's Sorted. -/
import Derived.Test.YtpdackbcnbhppaaR7
import Derived.BigQuiet
import Derived.Deep.QuietTactic
import Derived.Deep.CutBlock
namespace Go.Proofs.Ytpdackbcnbhppaa
open Go.RowKit
attribute [local go_sem] Oper.semAt_some

theorem fm_drop {α : Type} {c : α → List Value} {sz : Nat} (E : Enc c sz) (l : List α) (i : Nat) : (l.drop i).flatMap c = (l.flatMap c).drop (i * sz) := by
  rcases Nat.le_total i l.length with h | h
  · have h1 : l.flatMap c = (l.take i).flatMap c ++ (l.drop i).flatMap c := by rw [← List.flatMap_append, List.take_append_drop]
    rw [h1, List.drop_append_of_le_length (by rw [fm_len E, List.length_take]; exact Nat.mul_le_mul_right _ (by omega))]
    have : (List.drop (i * sz) ((l.take i).flatMap c)) = [] := by
      rw [List.drop_eq_nil_iff, fm_len E, List.length_take]
      exact Nat.mul_le_mul_right _ (by omega)
    rw [this, List.nil_append]
  · rw [List.drop_eq_nil_of_le h, List.drop_eq_nil_of_le (by rw [fm_len E]; exact Nat.mul_le_mul_right _ h)]
    rfl
theorem RdR.take {α : Type} {c : α → List Value} {sz : Nat} (E : Enc c sz) {W : World} {B : Nat} {A : Option Addr} {l : List α} (h : RdR c sz W B A l) {j : Nat} (hj : j ≤ l.length) : RdR c sz W B A (l.take j) := by
  refine ⟨fm_len E _, fun h0 => ?_⟩
  obtain ⟨b', off', e, q1, q2, q3⟩ := h.2 (by rw [List.length_take] at h0; omega)
  refine ⟨b', off', e, q1, q2, fun i v hi => q3 i v ?_⟩
  rw [fm_take E, List.getElem?_take] at hi
  split at hi
  · exact hi
  · cases hi
theorem RdR.drop {α : Type} {c : α → List Value} {sz : Nat} (E : Enc c sz) {W : World} {B b off : Nat} {l : List α} (h : RdR c sz W B (some ⟨b, off, none⟩) l) (j : Nat) : RdR c sz W B (some ⟨b, off + j * sz, none⟩) (l.drop j) := by
  refine ⟨fm_len E _, fun h0 => ?_⟩
  obtain ⟨b', off', e, q1, q2, q3⟩ := h.2 (by rw [List.length_drop] at h0; omega)
  injection e with e
  injection e with e1 e2 e3
  subst e1 e2
  refine ⟨b, off + j * sz, rfl, q1, q2, fun i v hi => ?_⟩
  rw [fm_drop E, List.getElem?_drop] at hi
  rw [Nat.add_assoc]
  exact q3 _ v hi

set_option maxRecDepth 100000 in
set_option maxHeartbeats 4000000 in
theorem rSorted_ok {w : World} {B n c : Nat} {A : Option Addr} {f : List (Int × Int)} (hn : n = f.length) (h : RdR brC 2 w B A f) (hm : n ≤ 1048576) :
    Calls Try.prog 47 #[.slice A n c] w fun r w' => ∃ v, r = .returned v ∧ Rw brC 2 w' w.heap.size 65 v (ssort f) ∧ Below w.heap.size w w' := by
  have HN := Lib.hid hn
  clear hn
  go_enter Try.func47, Try.ntmps47
  go_wp2
  go_loopg [3, 4] n (fun gk ov iv wr => ∃ i : Nat, i + gk = n ∧ iv = .int .i64 i ∧ Rw brC 2 wr w.heap.size 65 ov (ssort (f.take i)) ∧ Below w.heap.size w wr)
  case atStart => exact ⟨0, by omega, rfl, Rw.nil _ _ _, Below.refl _ _⟩
  case round =>
    obtain ⟨i, hi, rfl, hR, hb⟩ := hrel
    have HI := Lib.hid hi
    clear hi
    by_cases hlt : i < n
    · obtain ⟨x, hx⟩ : ∃ x, f[i]? = some x := ⟨_, List.getElem?_eq_getElem (by have := HN.out; omega)⟩
      have h1 := h.below hb (.inr (Nat.le_refl _))
      obtain ⟨fb, fo, rfl, f1, f2, hc⟩ := h1.at_ encB hx (by omega)
      have c0 := hc 0 _ rfl
      have c1 := hc 1 _ rfl
      rw [Nat.add_zero] at c0
      rw [← Nat.add_assoc] at c1
      have htk : ssort (f.take (i + 1)) = ins x (ssort (f.take i)) := by
        rw [← ssort_snoc, List.take_add_one, hx]; rfl
      have hss := ssort_srt (f.take i)
      obtain ⟨O, hO⟩ : ∃ O, ssort (f.take i) = O := ⟨_, rfl⟩
      rw [hO] at hR htk hss
      have hol : O.length = i := by rw [← hO, ssort_length, List.length_take]; have := HN.out; omega
      have HTK := Lib.hid htk
      have HSS := Lib.hid hss
      obtain ⟨oA, oc, rfl, ho1, ho2, hoR⟩ := hR.val
      rw [hol] at ho1 ⊢
      have HOL := Lib.hid hol
      clear hc htk hss hO hol
      obtain ⟨W0, rfl⟩ : ∃ W0, W0 = wr := ⟨_, rfl⟩
      go_upto_block 2 with (fail)
      go_cut [5] from 15 to 32 (fun av wx => ∃ (a m : Nat), av = .int .i64 a ∧ a ≤ i ∧ (∀ y ∈ O.drop a, x.1 < y.1) ∧ (∀ y, (O.take a).getLast? = some y → y.1 ≤ x.1) ∧ wx = W0.drewN m)
      case first =>
        go_wp2
        go_loopg [5] i (fun gk av wr => ∃ (a m : Nat), a = gk ∧ av = .int .i64 a ∧ a ≤ i ∧ (∀ y ∈ O.drop a, x.1 < y.1) ∧ wr = W0.drewN m)
        case atStart => exact ⟨i, 0, rfl, rfl, Nat.le_refl _, by rw [List.drop_eq_nil_of_le (by have := HOL.out; omega)]; simp, rfl⟩
        case round =>
          obtain ⟨a, m, hga, rfl, hai, hgt, rfl⟩ := hrel
          have HGA := Lib.hid hga
          have HGT := Lib.hid hgt
          clear hga hgt
          rcases Nat.eq_zero_or_pos a with h0 | h0
          · subst h0
            have hd2 : decide ((0 : Int) < ((0 : Nat) : Int)) = false := by simp
            go_wp2
            go_quiet (fail)
            go_wp2
            go_meet
            exact ⟨0, m + nq, rfl, Nat.zero_le _, HGT.out, by simp, by simp [World.drewN, Nat.add_assoc]⟩
          · obtain ⟨p, hp⟩ : ∃ p, p + 1 = a := ⟨a - 1, by omega⟩
            obtain ⟨y, hy⟩ : ∃ y, O[p]? = some y := ⟨_, List.getElem?_eq_getElem (by have := HOL.out; omega)⟩
            obtain ⟨ob, oo, rfl, o1, o2, hc⟩ := hoR.at_ encB hy (by omega)
            have d0 := hc 0 _ rfl
            rw [Nat.add_zero] at d0
            have e1 : IntKind.i64.wrap ((a : Int) - 1) = (p : Int) := by rw [IntWalk.i64_in _ (by omega)]; omega
            have hai2 : p < i := by omega
            have HY := Lib.hid hy
            clear hc hy
            by_cases hxy : x.1 < y.1
            · go_wp2
              go_quiet (fail)
              go_wp2
              go_roundg p
              case rel =>
                refine ⟨p, _, rfl, rfl, by omega, fun z hz => ?_, rfl⟩
                have : O.drop p = y :: O.drop (p + 1) := by
                  rw [List.drop_eq_getElem_cons (by have := HOL.out; omega)]
                  have := HY.out
                  rw [List.getElem?_eq_getElem (by have := HOL.out; omega)] at this
                  rw [Option.some.inj this]
                rw [this] at hz
                rcases List.mem_cons.1 hz with rfl | hz
                · exact hxy
                · rw [hp] at hz; exact HGT.out z hz
              case measure => have := HGA.out; omega
            · have hd2 : decide (x.1 < y.1) = false := by simpa using hxy
              go_wp2
              go_quiet (fail)
              go_wp2
              go_meet
              refine ⟨a, m + nq, rfl, hai, HGT.out, fun z hz => ?_, by simp [World.drewN, Nat.add_assoc]⟩
              have : (O.take a).getLast? = some y := by
                rw [← hp, List.take_add_one, HY.out]; simp
              rw [this] at hz
              injection hz with hz
              subst hz; omega
      case rest =>
        obtain ⟨a, m, rfl, hai, hgt, hle, rfl⟩ := hcut
        have hfin : O.take a ++ x :: O.drop a = ins x O := by
          have := ins_done (x := x) (L := O.take a) (G := O.drop a) (by rw [List.take_append_drop]; exact HSS.out) hgt hle
          rw [List.take_append_drop] at this
          exact this
        have hT : RdR brC 2 (W0.drewN m) W0.heap.size oA (O.take a) := hoR.take encB (by have := HOL.out; omega)
        have hD : ∀ b off, oA = some ⟨b, off, none⟩ → RdR brC 2 W0 W0.heap.size (some ⟨b, off + a * 2, none⟩) (O.drop a) := fun b off e => by rw [e] at hoR; exact hoR.drop encB a
        have htl : (O.take a).length = a := by rw [List.length_take]; have := HOL.out; omega
        have hdl : (O.drop a).length = i - a := by rw [List.length_drop, HOL.out]
        obtain ⟨T, hTT⟩ : ∃ T, O.take a = T := ⟨_, rfl⟩
        obtain ⟨D, hDD⟩ : ∃ D, O.drop a = D := ⟨_, rfl⟩
        rw [hTT] at hfin hT htl
        rw [hDD] at hfin hD hdl
        rw [← HTK.out] at hfin
        have HFIN := Lib.hid hfin
        have HTL := Lib.hid htl
        have HDL := Lib.hid hdl
        clear hfin hgt hle htl hdl hTT hDD
        have hac : a ≤ oc := by omega
        go_wp2_with (at_builtin; go_must (refine wpList_appRs encB etB rfl rfl rfl (Rw.nil (c := brC) (sz := 2) _ (w.heap.size) 65) HTL.out.symm rfl hT ?_ ?_ ?_ ?_))
        · have := HTL.out; unfold maxLen; simp; omega
        · have := HTL.out; simp; omega
        · exact hb.size
        intro v1 w1 R1 g1 hv1
        have R1 : Rw brC 2 w1 w.heap.size 65 v1 T := R1
        have g1 : W0.grownBy w1 (Value.slice none 0 0).ownBlock := ⟨g1.os, g1.tape, g1.output, g1.size, g1.block⟩
        have hv1 : ∀ j, v1.ownBlock = some j → j = W0.heap.size := by
          intro j e
          rcases hv1 with h | h
          · rw [h] at e; simp [Value.ownBlock] at e
          · rw [h] at e; injection e with e; exact e.symm
        have b1 : Below W0.heap.size W0 w1 := (Below.refl _ W0).grown g1 (Nat.le_refl _) (by simp [Value.ownBlock])
        have x0 : w1.cell? ⟨fb, fo + i * 2, none⟩ = some (.int .i64 x.1) := ((bcell b1).1 fb _ f2).trans c0
        have x1 : w1.cell? ⟨fb, fo + i * 2 + 1, none⟩ = some (.int .i64 x.2) := ((bcell b1).1 fb _ f2).trans c1
        clear g1 c0 c1
        obtain ⟨A1, k1, hvv, _, _, _⟩ := R1.val
        rw [HTL.out] at hvv
        subst hvv
        go_wp2_with (at_builtin; go_must (refine wpList_appR (y := x) encB etB rfl rfl rfl (R1.alloc _) rfl (Blk.at_ (by simp)) rfl ?_ ?_ ?_ ?_))
        · have := HTL.out; unfold maxLen; omega
        · have := HTL.out; omega
        · have := hb.size; have := b1.size
          show w.heap.size ≤ (w1.alloc _).heap.size
          rw [World.size_alloc]; omega
        intro g2 k2 w2 R2 gr2 hv2
        have hl2 : (T ++ [x]).length = a + 1 := by rw [List.length_append, HTL.out]; rfl
        rw [HTL.out] at R2 ⊢
        have b2 : Below W0.heap.size W0 w2 := (b1.alloc b1.size _).grown gr2 (by have := b1.size; simp; omega) (fun j e => by have := hv1 j e; omega)
        have hg2 : W0.heap.size ≤ g2 := by
          rcases hv2 with e | e
          · have := hv1 g2 e; omega
          · have := b1.size; omega
        obtain ⟨U, hU⟩ : ∃ U, T ++ [x] = U := ⟨_, rfl⟩
        rw [hU] at R2 hl2
        have HU := Lib.hid hU
        have HL2 := Lib.hid hl2
        clear gr2 hv2 hl2 hU x0 x1
        have hf : U ++ D = ssort (f.take (i + 1)) := by rw [← HFIN.out, ← HU.out]; simp
        have HF := Lib.hid hf
        clear hf
        rcases oA with _ | ad
        · have hi0 : i = 0 := by
            rcases hR.cases' with ⟨e, _⟩ | ⟨g, cap, e, _⟩
            · injection e with _ e; have := HOL.out; omega
            · cases e
          subst hi0
          have ha0 : a = 0 := by omega
          subst ha0
          have hdn : RdR brC 2 w2 0 none D := by
            have hd0 : D = [] := List.eq_nil_of_length_eq_zero HDL.out
            rw [hd0]; exact Reads.none_
          clear hD
          go_wp2_with (at_builtin; go_must (refine wpList_appRs encB etB rfl rfl rfl R2 HDL.out.symm rfl hdn ?_ ?_ ?_ ?_))
          · have := HDL.out; have := HL2.out; unfold maxLen; omega
          · have := HDL.out; have := HL2.out; omega
          · have := hb.size; have := b2.size; omega
          intro v3 w3 R3 g3 hv3
          rw [HF.out] at R3
          have b3 : Below W0.heap.size W0 w3 := b2.grown g3 b2.size (fun j e => by have : g2 = j := by simpa [Value.ownBlock] using e
                                                                                   omega)
          go_wp2
          go_roundg (n - (0 + 1))
          case rel => exact ⟨0 + 1, by omega, by go_num, R3, hb.trans (b3.mono hb.size)⟩
          case measure => have := HI.out; omega
        · obtain ⟨ob, rfl⟩ : ∃ ob, ad = ⟨ob, 0, none⟩ := by
            rcases hR.cases' with ⟨e, _⟩ | ⟨g, cap, e, _⟩
            · cases e
            · injection e with e; injection e with e; exact ⟨g, e⟩
          have hD2 := (hD ob 0 rfl).below b2 (.inl (Nat.le_refl _))
          rw [Nat.zero_add] at hD2
          have hD3 : RdR brC 2 w2 W0.heap.size (if oc = a then some ⟨ob, 0, none⟩ else some ⟨ob, a * 2, none⟩) D := by
            split
            · have hd0 : D = [] := List.eq_nil_of_length_eq_zero (by have := HDL.out; omega)
              rw [hd0]
              exact ⟨rfl, fun h => by cases h⟩
            · exact hD2
          clear hD2
          go_wp2_with (at_builtin; go_must (refine wpList_appRs encB etB rfl rfl rfl R2 HDL.out.symm rfl hD3 ?_ ?_ ?_ ?_))
          · have := HDL.out; have := HL2.out; unfold maxLen; omega
          · have := HDL.out; have := HL2.out; omega
          · have := hb.size; have := b2.size; omega
          all_goals
            intro v3 w3 R3 g3 hv3
            rw [HF.out] at R3
            have b3 : Below W0.heap.size W0 w3 := b2.grown g3 b2.size (fun j e => by have : g2 = j := by simpa [Value.ownBlock] using e
                                                                                     omega)
            go_wp2
            go_roundg (n - (i + 1))
            case rel => exact ⟨i + 1, by omega, by go_num, R3, hb.trans (b3.mono hb.size)⟩
            case measure => have := HI.out; omega
    · have hfe : f.take i = f := List.take_of_length_le (by have := HN.out; have := HI.out; omega)
      rw [hfe] at hR
      clear hfe
      go_wp2
      go_ret
      exact ⟨_, rfl, hR, hb⟩
end Go.Proofs.Ytpdackbcnbhppaa
