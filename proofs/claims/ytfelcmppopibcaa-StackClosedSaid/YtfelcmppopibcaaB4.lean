/- StackClosed walked. -/
import Derived.Test.YtfelcmppopibcaaE6
import Derived.Test.YtfelcmppopibcaaL1
import Derived.Test.YtfelcmppopibcaaS12
import Derived.Test.YtfelcmppopibcaaA1
import Derived.Deep.CutRange
import Derived.Deep.QuietTactic
import Derived.BigQuiet
namespace Go.Proofs.Ytfelcmppopibcaa
open Go.RowKit

set_option maxRecDepth 100000 in
set_option maxHeartbeats 1000000 in
theorem closed_long {w : World} {A : Option Addr} {n c : Nat} (hl : 1048576 < n) (right : Bool) (k : Int) :
    Calls Try.prog 4 #[.bool right, .slice A n c, .int .i64 k] w fun e w' => e = .returned (.bool true) ∧ Below w.heap.size w w' := by
  have hl1 : (1048576 : Int) < n := by omega
  have hl2 : decide ((1048576 : Int) < n) = true := by simp; omega
  cases right
  · go_enter Try.func4, Try.ntmps4
    go_wp2_with (first
      | (go_at_call 12; refine (Explicit_long _ 0 (.inl rfl) A n c hl).mono ?_; rintro r2 w2 ⟨rfl, b2⟩)
      | (go_at_call 17; refine (lives_ok _).mono ?_; rintro r3 w3 ⟨rfl, b3⟩))
    go_ret
    exact ⟨rfl, (b2.alloc b2.size _).trans (b3.mono (by have := b2.size; simp; omega))⟩
  · go_enter Try.func4, Try.ntmps4
    go_wp2_with (first
      | (go_at_call 12; refine (Explicit_long _ 1 (.inr rfl) A n c hl).mono ?_; rintro r2 w2 ⟨rfl, b2⟩)
      | (go_at_call 17; refine (lives_ok _).mono ?_; rintro r3 w3 ⟨rfl, b3⟩))
    go_ret
    exact ⟨rfl, (b2.alloc b2.size _).trans (b3.mono (by have := b2.size; simp; omega))⟩

/-- What is noted of a beginning that has its end. -/
def Noted (l : List Int) (y : Int) : Prop := ∃ j e : Nat, y = (j : Int) ∧ j < l.length ∧ begins (l.getD j 0) = true ∧ (matchL l).getD j 0 = (e : Int) ∧ e < l.length

theorem noted_of {l : List Int} {i : Nat} (hi : i < l.length) (h23 : l.getD i 0 ≠ 23) (h0 : 0 ≤ (matchL l).getD i 0) (h1 : (matchL l).getD i 0 < l.length) : Noted l i := by
  rcases (matchL_inv l).kind i _ (get_getD hi) with ⟨h, _⟩ | ⟨h, _⟩ | ⟨y, h, _, hy, h2 | h2⟩
  · rw [getD_of h] at h0; omega
  · rw [getD_of h] at h1; omega
  · exact ⟨i, y, rfl, hi, h2.2.1, getD_of h, hy⟩
  · exact absurd h2.2.1 h23

theorem RdInts.drop {w : World} {B : Nat} {k : IntKind} {b off : Nat} {l : List Int} (h : RdInts w B k (some ⟨b, off, none⟩) l) {n : Nat} (hn : n < l.length) : RdInts w B k (some ⟨b, off + n, none⟩) (l.drop n) := by
  refine ⟨by simp, fun _ => ?_⟩
  obtain ⟨b', off', e, hb, hs, hc⟩ := h.2 (by omega)
  cases e
  refine ⟨b, off + n, rfl, hb, hs, fun j u hu => ?_⟩
  rw [Nat.add_assoc]
  refine hc (n + j) u ?_
  rw [List.getElem?_map, List.getElem?_drop] at hu
  rw [List.getElem?_map]
  exact hu

set_option maxRecDepth 100000 in
set_option maxHeartbeats 4000000 in
theorem closed_walk {w : World} {A : Option Addr} {c : Nat} {l : List Int} (h : RdInts w w.heap.size .u8 A l) (hl : l.length ≤ 1048576) (hc : l.length ≤ c) (right : Bool) (which : Int) :
    Calls Try.prog 4 #[.bool right, .slice A l.length c, .int .i64 which] w fun e w' => e = .returned (.bool true) ∧ Below w.heap.size w w' := by
  have hl1 : ¬ (1048576 : Int) < l.length := by omega
  obtain ⟨base, hbr, hbase⟩ : ∃ base : Int, (base = if right then 1 else 0) ∧ (base = 0 ∨ base = 1) := ⟨if right then 1 else 0, rfl, by cases right <;> simp⟩
  have HB := Lib.hid hbr
  clear hbr
  go_enter Try.func4, Try.ntmps4
  go_upto_if 23 with (fail)
  go_cut [7] from 23 to 23 (fun v wx => v = .int .i8 base ∧ wx = w)
  case first =>
    have hbr := HB.out
    cases right
    · go_wp2
      go_meet
      exact ⟨by rw [hbr]; rfl, rfl⟩
    · go_wp2
      go_meet
      exact ⟨by rw [hbr]; rfl, rfl⟩
  case rest =>
    obtain ⟨rfl, rfl⟩ := hcut
    clear HB
    have HBB := Lib.hid hbase
    clear hbase
    go_wp2_with (first
      | (go_at_call 12; refine (Explicit_n (l := l) base rfl HBB.out h (Nat.le_refl _) hl).mono ?_; rintro r2 w2 ⟨lA, lc, cA, cc, mg, rfl, L2, C2, M2, -, -, b2⟩)
      | (go_at_call 18; refine (Match_any (l := l) ((h.below b2 (.inl (Nat.le_refl _))).alloc _) (by have := b2.size; simp; omega) hl).mono ?_; rintro r3 w3 ⟨mg3, rfl, J3, b3⟩; have X3 : Blk w3 w2.heap.size 29 #[.slice lA l.length lc, .slice cA l.length cc, .slice (some ⟨mg, 0, none⟩) l.length l.length] := (Blk.new w2 29 _).below b3 (by simp); obtain ⟨x1, x2, x3, xf, xl⟩ := X3.c3)
      | (go_at_call 17; refine (lives_ok _).mono ?_; rintro r4 w4 ⟨rfl, b4⟩))
    have hs2 := b2.size
    have hs3 := b3.size
    simp only [World.size_alloc] at hs3
    have X4 := X3.below b4 X3.lt
    have L4 := ((L2.alloc (.cells #[.slice lA l.length lc, .slice cA l.length cc, .slice (some ⟨mg, 0, none⟩) l.length l.length] 29)).below b3 (Nat.le_refl _)).below b4 (Nat.le_refl _)
    have C4 := ((C2.alloc (.cells #[.slice lA l.length lc, .slice cA l.length cc, .slice (some ⟨mg, 0, none⟩) l.length l.length] 29)).below b3 (Nat.le_refl _)).below b4 (Nat.le_refl _)
    have M4 := ((M2.alloc (.cells #[.slice lA l.length lc, .slice cA l.length cc, .slice (some ⟨mg, 0, none⟩) l.length l.length] 29)).below b3 (Nat.le_refl _)).below b4 (Nat.le_refl _)
    have J4 := J3.below b4 (Nat.le_refl _)
    have b03 := (b2.alloc hs2 (.cells #[.slice lA l.length lc, .slice cA l.length cc, .slice (some ⟨mg, 0, none⟩) l.length l.length] 29)).trans (b3.mono (by simp; omega))
    have b04 := b03.trans (b4.mono b03.size)
    have rd4 := h.below b04 (.inl (Nat.le_refl _))
    clear h L2 C2 M2 J3 X3 b2 b3 b4 b03 x1 x2 x3 xf xl
    have hml := matchL_length l
    have hlv := runS_len base l (auP l) l.length
    have HML := Lib.hid hml
    have HLV := Lib.hid hlv
    have hclosed := fun (a e : Nat) ha hbg hm he => closed_all HBB.out (l := l) (a := a) (e := e) ha hbg hm he
    have HCL := Lib.hid hclosed
    generalize (runS base l (auP l) l.length).2.1 = lvs at *
    generalize (runS base l (auP l) l.length).2.2 = cls at *
    clear hml hlv hclosed
    go_loopg [11, 12] l.length (fun gk bv iv wr => ∃ (i : Nat) (bl : List Int) (bA : Option Addr) (bc : Nat), i + gk = l.length ∧ iv = .int .i64 i ∧ bv = .slice bA bl.length bc ∧ Ints wr w4.heap.size 3 .i64 (.slice bA bl.length bc) bl ∧ bl.length ≤ i ∧ (∀ y ∈ bl, Noted l y) ∧ Below w4.heap.size w4 wr)
    case atStart => exact ⟨0, [], none, 0, by omega, rfl, rfl, Ints.nil _ _ _ _, by simp, by simp, Below.refl _ _⟩
    case round =>
      obtain ⟨i, bl, bA, bc, hi, rfl, rfl, I, hbl, hnt, bb⟩ := hrel
      have HI := Lib.hid hi
      have HNT := Lib.hid hnt
      clear hi hnt
      have hbs := bb.size
      by_cases hil : i < l.length
      · obtain ⟨ab, ao, rfl, _, hl1, ha⟩ := (rd4.below bb (.inr (Nat.le_refl _))).cells (by omega)
        have c1 := ha i hil
        obtain ⟨lb, lo, rfl, _, hll, _⟩ := (L4.below bb (Nat.le_refl _)).rd.cells (by rw [HLV.out.1]; omega)
        obtain ⟨cb, co, rfl, _, hcl, _⟩ := (C4.below bb (Nat.le_refl _)).rd.cells (by rw [HLV.out.2]; omega)
        obtain ⟨-, -, -, _, hmg, _, hmc⟩ := (M4.below bb (Nat.le_refl _)).at_
        obtain ⟨-, -, -, _, hmg3, _, hjc⟩ := (J4.below bb (Nat.le_refl _)).at_
        have cm := hmc i (by rw [HML.out]; exact hil)
        have cj := hjc i (by rw [HML.out]; exact hil)
        obtain ⟨x1, x2, x3, xf, xl⟩ := (X4.below bb X4.lt).c3
        clear hmc hjc ha
        have hil3 : (i : Int) < l.length := by omega
        have bbq : ∀ n, Below w4.heap.size w4 (wr.drewN n) := fun n => ⟨bb.os, bb.tape, bb.output, bb.size, bb.block⟩
        go_upto_region 14 with (fail)
        go_quiet (fail)
        by_cases h23 : l.getD i 0 = 23
        · rw [h23] at c1
          generalize hmi0 : (matchL l).getD i 0 = mi at cm cj
          have HMI := Lib.hid hmi0
          clear hmi0
          go_wp2
          go_roundg (l.length - (i + 1))
          case rel => exact ⟨i + 1, bl, bA, bc, by have := HI.out; omega, by go_num, rfl, I, by omega, HNT.out, bbq _⟩
          case measure => have := HI.out; omega
        · by_cases h0 : 0 ≤ (matchL l).getD i 0
          · by_cases h1 : (matchL l).getD i 0 < l.length
            · obtain ⟨j0, e, hy, _, hbg, hme, hel⟩ := noted_of hil h23 h0 h1
              have hy2 : j0 = i := by omega
              subst hy2
              clear hy
              obtain ⟨hae, hl23, ⟨x, hov, v1, v2, v3, v4⟩, -⟩ := HCL.out j0 e hil hbg hme hel
              have HME := Lib.hid hme
              rw [hme] at cm cj
              have hb23 : (l.getD j0 0 != 23) = true := by simpa using h23
              have HBG := Lib.hid hbg
              have hel2 : (e : Int) < l.length := by omega
              clear h23 hbg
              generalize hci : l.getD j0 0 = ci at c1 hb23 v2
              have HCI := Lib.hid hci
              clear hci
              have H1 := Lib.hid h1
              have HL23 := Lib.hid hl23
              have V1 := Lib.hid v1
              have V2 := Lib.hid v2
              have V3 := Lib.hid v3
              have V4 := Lib.hid v4
              clear h0 h1 hme hl23 v1 v2 v3 v4
              go_wp2_with (at_builtin; go_must (refine wpList_appI Try.ei27 rfl rfl rfl ((Ints.drewN I _).alloc _) rfl (Blk.at_ (by simp)) ?_ ?_ ?_ ?_))
              · unfold maxLen; omega
              · omega
              · simp; omega
              intro g1 k1' w5 I5 hg5 hgg5
              have bb5 : Below w4.heap.size w4 w5 := ((bbq _).alloc hbs (.cells #[.int .i64 j0] 3)).grown hg5 (by simp; omega) (fun k hk => (I.lt k hk).1)
              obtain ⟨_, _, q1, _, hl5, ha5⟩ := (rd4.below bb5 (.inr (Nat.le_refl _))).cells (by omega)
              cases q1
              obtain ⟨_, _, q2, _, hll5, hL5⟩ := (L4.below bb5 (Nat.le_refl _)).rd.cells (by rw [HLV.out.1]; omega)
              cases q2
              obtain ⟨_, _, q3, _, hcl5, hC5⟩ := (C4.below bb5 (Nat.le_refl _)).rd.cells (by rw [HLV.out.2]; omega)
              cases q3
              obtain ⟨-, -, -, _, hmg5, _, hjc5⟩ := (J4.below bb5 (Nat.le_refl _)).at_
              have m1 := hjc5 j0 (by rw [HML.out]; exact hil)
              rw [HME.out] at m1
              have k1 := ha5 j0 hil
              rw [HCI.out] at k1
              have k2 := ha5 e hel
              rw [HL23.out] at k2
              have kL1 := hL5 j0 (by rw [HLV.out.1]; exact hil)
              have kL2 := hL5 e (by rw [HLV.out.1]; exact hel)
              have kC1 := hC5 j0 (by rw [HLV.out.2]; exact hil)
              have kC2 := hC5 e (by rw [HLV.out.2]; exact hel)
              rw [V1.out] at kL1
              rw [V3.out] at kL2
              rw [V2.out] at kC1
              rw [V4.out] at kC2
              clear c1 cm cj x1 x2 x3 xf ha5 hL5 hC5 hjc5
              obtain ⟨x1, x2, x3, xf, xl5⟩ := (X4.below bb5 X4.lt).c3
              have hbc := begins_cases HBG.out
              rw [HCI.out] at hbc
              have hp0 : plainCls ci 0 = ci := by
                unfold plainCls
                rw [if_neg (by simp), if_neg (by omega)]
              have hp1 : ((1 : Int) != ci) = true := by simp; omega
              have hp2 : ((2 : Int) != ci) = true := by simp; omega
              clear hbc
              have HP0 := Lib.hid hp0
              clear hp0
              have hnt5 : ∀ y ∈ bl ++ [(j0 : Int)], Noted l y := fun y hy => by
                rcases List.mem_append.1 hy with hy | hy
                · exact HNT.out y hy
                · have : y = (j0 : Int) := by simpa using hy
                  rw [this]
                  exact ⟨j0, e, rfl, hil, HBG.out, HME.out, hel⟩
              have HNT5 := Lib.hid hnt5
              clear hnt5
              have hlen5 : (bl ++ [(j0 : Int)]).length = bl.length + 1 := by simp
              have HLEN5 := Lib.hid hlen5
              clear hlen5
              go_upto_region 19 with (fail)
              have hij : (j0 : Int) < l.length := by omega
              have hfact : ∃ tb : Bool, (plainCls ci x.ov != ci) = tb ∧ (plainCls 23 x.ov != 23) = tb ∧ (tb = true → plainCls ci x.ov = plainCls 23 x.ov) := by
                rcases hov with e0 | e0 | e0
                · rw [e0, HP0.out, show plainCls 23 0 = 23 from rfl]; exact ⟨false, by simp, by simp, by simp⟩
                · rw [e0]; exact ⟨true, hp1, rfl, fun _ => rfl⟩
                · rw [e0]; exact ⟨true, hp2, rfl, fun _ => rfl⟩
              obtain ⟨tb, ht1, ht2, ht3⟩ := hfact
              generalize plainCls ci x.ov = vi at kC1 ht1 ht3
              generalize plainCls 23 x.ov = ve at kC2 ht2 ht3
              generalize x.lv = xlv at kL1 kL2
              clear HP0 hp1 hp2 hb23 hov m1 xl5 hl5 hll5 hcl5 hmg5
              cases tb
              · go_quiet (fail)
                go_wp2
                go_upto_region 20 with (fail)
                go_quiet (fail)
                go_wp2
                go_roundg (l.length - (j0 + 1))
                case rel => exact ⟨j0 + 1, bl ++ [(j0 : Int)], some ⟨g1, 0, none⟩, k1', by have := HI.out; omega, by go_num, by rw [HLEN5.out], by rw [HLEN5.out]; exact I5, by rw [HLEN5.out]; omega, HNT5.out, ⟨bb5.os, bb5.tape, bb5.output, bb5.size, bb5.block⟩⟩
                case measure => have := HI.out; omega
              · have ht4 := ht3 rfl
                subst ht4
                clear ht3
                go_quiet (fail)
                go_wp2
                go_upto_region 20 with (fail)
                go_quiet (fail)
                go_wp2
                go_roundg (l.length - (j0 + 1))
                case rel => exact ⟨j0 + 1, bl ++ [(j0 : Int)], some ⟨g1, 0, none⟩, k1', by have := HI.out; omega, by go_num, by rw [HLEN5.out], by rw [HLEN5.out]; exact I5, by rw [HLEN5.out]; omega, HNT5.out, ⟨bb5.os, bb5.tape, bb5.output, bb5.size, bb5.block⟩⟩
                case measure => have := HI.out; omega
            · have hb23 : (l.getD i 0 != 23) = true := by simpa using h23
              clear h23
              generalize l.getD i 0 = ci at c1 hb23
              generalize hmi0 : (matchL l).getD i 0 = mi at cm cj h0 h1
              have HMI := Lib.hid hmi0
              clear hmi0
              go_wp2
              go_roundg (l.length - (i + 1))
              case rel => exact ⟨i + 1, bl, bA, bc, by have := HI.out; omega, by go_num, rfl, I, by omega, HNT.out, bbq _⟩
              case measure => have := HI.out; omega
          · have hb23 : (l.getD i 0 != 23) = true := by simpa using h23
            clear h23
            generalize l.getD i 0 = ci at c1 hb23
            generalize hmi0 : (matchL l).getD i 0 = mi at cm cj h0
            have HMI := Lib.hid hmi0
            clear hmi0
            go_wp2
            go_roundg (l.length - (i + 1))
            case rel => exact ⟨i + 1, bl, bA, bc, by have := HI.out; omega, by go_num, rfl, I, by omega, HNT.out, bbq _⟩
            case measure => have := HI.out; omega
      · have hil2 : i = l.length := by have := HI.out; omega
        clear HI hil
        subst hil2
        have b05 := b04.trans (bb.mono b04.size)
        by_cases hb0 : bl = []
        · subst hb0
          simp only [List.length_nil] at I ⊢
          go_wp2
          go_ret
          exact ⟨rfl, b05⟩
        · have hbl0 : 0 < bl.length := List.length_pos_iff.2 hb0
          obtain ⟨bg, bcc, hbv⟩ := I.form hbl0
          injection hbv with e1 e2 e3
          subst e1
          clear e2 e3
          have hbz : ((bl.length : Int) == 0) = false := by simp; omega
          have hbz2 : (bl.length : Int) ≠ 0 := by omega
          have hbz3 : ¬ ((bl.length : Int) = 0) := by omega
          have hza : (which.tmod (bl.length : Int)).natAbs < bl.length := by
            rw [Int.natAbs_tmod]
            simpa using Nat.mod_lt _ hbl0
          go_upto_if 181 with (fail)
          generalize which.tmod (bl.length : Int) = z at *
          obtain ⟨kk, hkk⟩ : ∃ kk : Nat, kk = z.natAbs := ⟨_, rfl⟩
          rw [← hkk] at hza
          have HKK := Lib.hid hkk
          clear hkk hbz hbz2 hbz3
          go_cut [15] from 176 to 183 (fun v wx => v = .int .i64 kk ∧ wx = wr)
          case first =>
            have hkk := HKK.out
            by_cases hz : z < 0
            · go_wp2
              go_meet
              exact ⟨by congr 1; omega, rfl⟩
            · go_wp2
              go_meet
              exact ⟨by congr 1; omega, rfl⟩
          case rest =>
            obtain ⟨rfl, rfl⟩ := hcut
            clear HKK
            obtain ⟨-, -, -, _, hbg1, _, hbc⟩ := I.at_
            have cb1 := hbc kk hza
            have hmem : bl.getD kk 0 ∈ bl := by
              rw [show bl.getD kk 0 = bl[kk] by simp [hza]]
              exact List.getElem_mem hza
            obtain ⟨j, e, hy, hjl, hbgj, hmej, hel⟩ := HNT.out _ hmem
            rw [hy] at cb1
            obtain ⟨hje, hl23, -, hW⟩ := HCL.out j e hjl hbgj hmej hel
            obtain ⟨hW1, hW2⟩ := hW _ rfl
            obtain ⟨-, -, -, _, hmg3, _, hjc⟩ := (J4.below bb (Nat.le_refl _)).at_
            have cj := hjc j (by rw [HML.out]; exact hjl)
            rw [hmej] at cj
            have rd5 := rd4.below bb (.inr (Nat.le_refl _))
            obtain ⟨ab, ao, rfl, hab, hal, _⟩ := rd5.cells (by omega)
            have HW1 := Lib.hid hW1
            have HW2 := Lib.hid hW2
            have hkb : (kk : Int) < bl.length := by omega
            have hjl2 : (j : Int) < l.length := by omega
            have hjc2 : (j : Int) + 1 ≤ c := by omega
            have hj1 : ((j : Int) + 1).toNat = j + 1 := by omega
            have hel2 : (e : Int) ≤ l.length := by omega
            have htk : (l.take (j + 1)).length = j + 1 := by simp; omega
            have hdr : (l.drop e).length = l.length - e := by simp
            have HTK := Lib.hid htk
            have HDR := Lib.hid hdr
            have I0 := Ints.nil wc wc.heap.size 40 .u8
            clear hbc hjc hy hmem hl23 hbgj hmej hW1 hW2 htk hdr HNT
            go_wp2_with (at_builtin; go_must (refine wpList_appIs Try.ei24 rfl rfl rfl I0 HTK.out.symm rfl (rd5.take (j + 1)) ?_ ?_ (Nat.le_refl _) ?_))
            · rw [HTK.out]; simp; unfold maxLen; omega
            · rw [HTK.out]; simp; omega
            intro v1 w1 I1 g1 hv1
            have I1 : Ints w1 wc.heap.size 40 .u8 v1 (l.take (j + 1)) := I1
            obtain ⟨vA, vcap, rfl, _, _, _⟩ := I1.val
            rw [HTK.out] at I1 hv1 ⊢
            have bw1 := (Below.refl wc.heap.size wc).grown g1 (Nat.le_refl _) (by simp [Value.ownBlock])
            have bbw1 := bb.trans (bw1.mono bb.size)
            have rdd := ((rd5.below bw1 (.inr (Nat.le_refl _))).drop (n := e) hel)
            have hsw1 := bw1.size
            go_wp2_with (at_builtin; go_must (refine wpList_appIs Try.ei24 rfl rfl rfl I1 HDR.out.symm rfl rdd ?_ ?_ hsw1 ?_))
            · rw [HTK.out, HDR.out]; unfold maxLen; omega
            · rw [HTK.out, HDR.out]; omega
            intro v2 w6 I2 g2 hv2
            obtain ⟨uA, ucap, rfl, _, _, _⟩ := I2.val
            have bw6 := bw1.grown g2 hsw1 (fun k hk => (I1.lt k hk).1)
            have bbw6 := bb.trans (bw6.mono bb.size)
            have hsw6 := bw6.size
            clear rdd I0 I1 g1 hv1 g2 hv2 rd5 bw1 bbw1 HTK HDR
            generalize l.take (j + 1) ++ l.drop e = WL at *
            have hWl : WL.length ≤ 1048576 := by have := HW1.out; omega
            go_wp2_with (go_at_call 12; refine (Explicit_n (l := WL) base rfl HBB.out I2.rd (Nat.le_refl _) hWl).mono ?_; rintro r7 w7 ⟨lA7, lc7, cA7, cc7, mg7, rfl, L7, C7, -, -, -, b7⟩)
            have hlv7 := runS_len base WL (auP WL) WL.length
            have HLV7 := Lib.hid hlv7
            clear hlv7
            generalize (runS base WL (auP WL) WL.length).2.1 = lvs7 at *
            generalize (runS base WL (auP WL) WL.length).2.2 = cls7 at *
            have hs7 := b7.size
            have b47 := bbw6.trans (b7.mono bbw6.size)
            have b48 := b47.alloc b47.size (.cells #[.slice lA7 WL.length lc7, .slice cA7 WL.length cc7, .slice (some ⟨mg7, 0, none⟩) WL.length WL.length] 29)
            have X8 := X4.below b48 X4.lt
            have L8 := L4.below b48 (Nat.le_refl _)
            have C8 := C4.below b48 (Nat.le_refl _)
            have Y8 := Blk.new w7 29 #[.slice lA7 WL.length lc7, .slice cA7 WL.length cc7, .slice (some ⟨mg7, 0, none⟩) WL.length WL.length]
            have L9 := L7.alloc (.cells #[.slice lA7 WL.length lc7, .slice cA7 WL.length cc7, .slice (some ⟨mg7, 0, none⟩) WL.length WL.length] 29)
            have C9 := C7.alloc (.cells #[.slice lA7 WL.length lc7, .slice cA7 WL.length cc7, .slice (some ⟨mg7, 0, none⟩) WL.length WL.length] 29)
            clear X4 L4 C4 L7 C7 M4 J4 rd4 I I2 bb bbw6 b7 b47 bw6 cb1 cj HCL
            generalize w7.alloc (.cells #[.slice lA7 WL.length lc7, .slice cA7 WL.length cc7, .slice (some ⟨mg7, 0, none⟩) WL.length WL.length] 29) = W8 at *
            have b08 := b04.trans (b48.mono b04.size)
            go_loopg [21] WL.length (fun gk iv wr => ∃ i : Nat, i + gk = WL.length ∧ iv = .int .i64 i ∧ Below W8.heap.size W8 wr)
            case atStart => exact ⟨0, by omega, rfl, Below.refl _ _⟩
            case round =>
              obtain ⟨i, hi, rfl, bz⟩ := hrel
              have HI := Lib.hid hi
              clear hi
              have bzq : ∀ n, Below W8.heap.size W8 (wr.drewN n) := fun n => ⟨bz.os, bz.tape, bz.output, bz.size, bz.block⟩
              by_cases hil : i < WL.length
              · have hplt : phi j (e - j - 1) i < l.length := by have := HW1.out; unfold phi; split <;> omega
                obtain ⟨lb, lo, rfl, _, hll, hL⟩ := (L8.below bz (Nat.le_refl _)).rd.cells (by rw [HLV.out.1]; omega)
                obtain ⟨cb, co, rfl, _, hcl, hC⟩ := (C8.below bz (Nat.le_refl _)).rd.cells (by rw [HLV.out.2]; omega)
                obtain ⟨lb7, lo7, rfl, _, hll7, hL7⟩ := (L9.below bz (Nat.le_refl _)).rd.cells (by rw [HLV7.out.1]; omega)
                obtain ⟨cb7, co7, rfl, _, hcl7, hC7⟩ := (C9.below bz (Nat.le_refl _)).rd.cells (by rw [HLV7.out.2]; omega)
                obtain ⟨x1, x2, x3, xf, xl⟩ := (X8.below bz X8.lt).c3
                obtain ⟨y1, y2, y3, yf, yl⟩ := (Y8.below bz Y8.lt).c3
                obtain ⟨q1, q2⟩ := HW2.out i hil
                have c1 := hL7 i (by rw [HLV7.out.1]; exact hil)
                have c2 := hC7 i (by rw [HLV7.out.2]; exact hil)
                have c3 := hL _ (by rw [HLV.out.1]; exact hplt)
                have c4 := hC _ (by rw [HLV.out.2]; exact hplt)
                rw [q1] at c1
                rw [q2] at c2
                generalize lvs.getD (phi j (e - j - 1) i) 0 = va at c1 c3
                generalize cls.getD (phi j (e - j - 1) i) 0 = vb at c2 c4
                have hiW : (i : Int) < WL.length := by omega
                clear q1 q2 hL hC hL7 hC7
                by_cases hij : i ≤ j
                · have hphi : phi j (e - j - 1) i = i := by unfold phi; rw [if_pos hij]
                  rw [hphi] at c3 c4 hplt
                  have hil3 : (i : Int) < l.length := by omega
                  have hd1 : decide ((j : Int) < i) = false := by simp; omega
                  clear hphi
                  go_upto_region 41 with (fail)
                  go_quiet (fail)
                  go_wp2
                  go_roundg (WL.length - (i + 1))
                  case rel => exact ⟨i + 1, by have := HI.out; omega, by go_num, bzq _⟩
                  case measure => have := HI.out; omega
                · have hpi : ((i : Int) + e - j - 1) = ((phi j (e - j - 1) i : Nat) : Int) := by unfold phi; rw [if_neg hij]; omega
                  have hi20 : i ≤ 1048576 := by omega
                  have he20 : e ≤ 1048576 := by omega
                  generalize phi j (e - j - 1) i = p at c3 c4 hplt hpi
                  have hpl : (p : Int) < l.length := by omega
                  have hd1 : decide ((j : Int) < i) = true := by simp; omega
                  go_upto_region 41 with (fail)
                  go_quiet (fail)
                  go_wp2
                  go_roundg (WL.length - (i + 1))
                  case rel => exact ⟨i + 1, by have := HI.out; omega, by go_num, bzq _⟩
                  case measure => have := HI.out; omega
              · go_wp2
                go_ret
                exact ⟨rfl, b08.trans (bz.mono b08.size)⟩
end Go.Proofs.Ytfelcmppopibcaa
