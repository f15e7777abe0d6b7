/- closed walked. -/
import Derived.Test.YtaekdnfpgkfjkaaDoorK3
import Derived.Test.YtaekdnfpgkfjkaaDoorMidR
namespace Go.Proofs.YtaekdnfpgkfjkaaDoor
open Go.RowKit
attribute [local go_sem] Oper.semAt_some
attribute [-go_sem] Go.Builtin.append_

/-- append of one that is open, behind the draw. -/
theorem app_one {W : World} {B : Nat} {lv : Value} {L : List Int} (h : Ints W B 21 .i32 lv L) (x : Int) (hl : L.length ≤ 1099511627776) (hB : B ≤ W.heap.size) :
    ∃ g cap W5, (Builtin.append_ #[46, 46] 46 #[lv, .slice (some ⟨W.heap.size, 0, none⟩) 1 1]).run Tryd.prog (W.alloc (.cells #[.int .i32 x] 21)).drew = .ok (.slice (some ⟨g, 0, none⟩) (L.length + 1) cap) W5 ∧
      Ints W5 B 21 .i32 (.slice (some ⟨g, 0, none⟩) (L.length + 1) cap) (L ++ [x]) ∧ (W.alloc (.cells #[.int .i32 x] 21)).drew.grownBy W5 lv.ownBlock ∧ (lv.ownBlock = some g ∨ g = W.heap.size + 1) := by
  have hown : Ints (W.alloc (.cells #[.int .i32 x] 21)).drew B 21 .i32 lv L := (h.alloc _).drew
  have hk : Blk (W.alloc (.cells #[.int .i32 x] 21)).drew W.heap.size 21 #[.int .i32 x] := (Blk.new W 21 _).drew
  obtain ⟨v', W5, h1, h2, h3, h4⟩ := run_app (P := Tryd.prog) eiR.t (w := (W.alloc (.cells #[.int .i32 x] 21)).drew) (c := 1) 46 hown (Reads.blk (n := 1) (size := 1) hk (by simp)) (by simp [Value.oneCell']) (by unfold maxLen; omega) (by omega) (by show B ≤ (W.alloc _).heap.size; rw [World.size_alloc]; omega)
  have hn1 : L.length + 1 ≠ 0 := by omega
  obtain ⟨g, cap, rfl, _, _⟩ := h2.form (by omega)
  refine ⟨g, cap, W5, h1, by unfold Ints; simpa using h2, h3, ?_⟩
  rcases h4 with h4 | h4
  · exact .inl h4.symm
  · right
    have : g = (W.alloc (.cells #[.int .i32 x] 21)).heap.size := by simpa [Value.ownBlock] using h4
    rw [this, World.size_alloc]

/-- Another row of what is open, whatever stood there. -/
theorem OpAt.put0 {W : World} {ob : Nat} {lv lv' p v : Value} {L' : List Int} {out : List UInt8} (h : Bld W (ob + 1) ob 1 106 #[lv, p, v] p v out) (hr : Ints W (ob + 1) 21 .i32 lv' L') : OpAt (W.setCell ⟨ob, 0, none⟩ lv') ob lv' p v L' out ∧ Frm (fun j => j = ob) W (W.setCell ⟨ob, 0, none⟩ lv') := by
  have F := (Frm.refl (fun j => j = ob) W).set (b := ob) (j := 0) rfl lv'
  have hb := h.blk.set_ 0 lv'
  refine ⟨⟨⟨by simpa using hb, rfl, rfl, h.pk, own_frm h.own F (fun j e h2 => ?_), h.ne, h.nl, by kernel_rfl⟩, own_frm hr F (fun j e h2 => ?_)⟩, F⟩
  · have := (h.row e).1; omega
  · have := (hr.lt j e).1; omega
theorem closed1_ok (w : World) : Calls Tryd.prog 63 #[] w fun e w' => e = .returned (.bool true) ∧ w' = w := by
  go_enter Tryd.func63, Tryd.ntmps63
  go_wp2
  go_ret
  exact ⟨rfl, rfl⟩
/-- One more is open. -/
theorem push_ok {W2 W5 : World} {ob g cap B : Nat} {lv p v : Value} {L : List Int} {out : List UInt8} {x : Int} (hO : OpAt W2 ob lv p v L out) (hlv : ∀ j, lv.ownBlock = some j → B ≤ j) (hob : ob + 1 + 1 < B)
    (r5 : Ints W5 (ob + 1) 21 .i32 (.slice (some ⟨g, 0, none⟩) (L.length + 1) cap) (L ++ [x])) (g5 : (W2.alloc (.cells #[.int .i32 x] 21)).drew.grownBy W5 lv.ownBlock) (hg5 : lv.ownBlock = some g ∨ g = W2.heap.size + 1) :
    OpAt (W5.setCell ⟨ob, 0, none⟩ (.slice (some ⟨g, 0, none⟩) (L.length + 1) cap)) ob (.slice (some ⟨g, 0, none⟩) (L.length + 1) cap) p v (L ++ [x]) out ∧
      Frm (fun j => j = ob ∨ lv.ownBlock = some j) W2 (W5.setCell ⟨ob, 0, none⟩ (.slice (some ⟨g, 0, none⟩) (L.length + 1) cap)) ∧
      ((Value.slice (some ⟨g, 0, none⟩) (L.length + 1) cap).ownBlock = lv.ownBlock ∨ ∀ j, (Value.slice (some ⟨g, 0, none⟩) (L.length + 1) cap).ownBlock = some j → W2.heap.size ≤ j) := by
  have F25 : Frm (fun j => lv.ownBlock = some j) W2 W5 := (((Frm.refl (fun j => lv.ownBlock = some j) W2).alloc _).drew).grown g5 (fun j e _ => e)
  have B5 := hO.bld.frm F25 (fun e => by have := hlv _ e; omega) (fun j hj e => hO.ne j e hj)
  obtain ⟨O6, F6⟩ := OpAt.put0 B5 r5
  refine ⟨O6, (F25.mono (F' := fun j => j = ob ∨ lv.ownBlock = some j) (fun _ _ e => .inr e)).trans F6 (fun _ _ e => .inl e), ?_⟩
  rcases hg5 with h | h
  · left; rw [h]; rfl
  · right
    intro j e
    have : g = j := by simpa [Value.ownBlock] using e
    omega

set_option maxRecDepth 100000 in
set_option maxHeartbeats 4000000 in
theorem closed_ok {w : World} {s : ByteArray} (hT : Lib.Utf8Tabs 0 1 w) (h2 : 2 ≤ w.heap.size) (hs : s.size ≤ 1099511627776) :
    Calls Tryd.prog 48 #[.string s] w fun r w' => r = .returned (.string (txt (cloF s))) ∧ Aft w w' := by
  obtain ⟨ob, hob⟩ : ∃ ob, w.heap.size + 1 = ob := ⟨_, rfl⟩
  refine (callsIn_wide (n := 5)).1 ?_
  refine callsIn_of_wp_marks Tryd.func48 rfl trivial ?_ rfl
  simp only [Tryd.ntmps48, List.size_toArray, List.length_cons, List.length_nil, Nat.reduceAdd, Nat.reduceSub, Array.replicate_succ, Array.replicate_zero, List.push_toArray, List.append_toArray, List.nil_append, List.cons_append]
  refine wpIn_wide.2 ?_
  go_upto_region 3 with (fail)
  obtain ⟨W0, hW0⟩ : ∃ W0, (((w.alloc (.cells #[.string s] 9)).alloc (.cells #[.slice none 0 0, .pointer none, .slice none 0 0] 106)).alloc (.cells #[.pointer (some ⟨ob, 0, none⟩)] 104)).alloc (.cells #[.int .i32 0] 21) = W0 := ⟨_, rfl⟩
  have a0 : Aft w W0 := by rw [← hW0]; exact ((((Aft.refl w).alloc _).alloc _).alloc _).alloc _
  have BT : Blk W0 w.heap.size 9 #[.string s] := by rw [← hW0]; exact (((Blk.new w 9 #[.string s]).alloc _).alloc _).alloc _
  have BO : Blk W0 ob 106 #[.slice none 0 0, .pointer none, .slice none 0 0] := by rw [← hW0]; exact ((Blk.at_ (by simp; omega)).alloc _).alloc _
  have BP : Blk W0 (ob + 1) 104 #[.pointer (some ⟨ob, 0, none⟩)] := by rw [← hW0]; exact (Blk.at_ (by simp; omega)).alloc _
  have BN : Blk W0 (ob + 1 + 1) 21 #[.int .i32 0] := by rw [← hW0]; exact Blk.at_ (by simp; omega)
  rw [hW0]
  have hbs : W0.heap.size = ob + 3 := by rw [← hW0]; simp; omega
  clear hW0
  obtain ⟨x0, xf, xl⟩ := BT.c1
  go_wp2_with (go_at_call 50; refine Spots_ok.mono ?_; rintro r1 w1 ⟨rfl, BS, b1⟩)
  have HT1 := tabs_aft hT (a0.trans b1)
  rw [hbs] at BS
  have hs1 : ob + 3 < w1.heap.size := BS.lt
  have hqq : ob + 1 + 1 < w1.heap.size := by omega
  have BT1 := BT.aft b1
  have BO1 := BO.aft b1
  have BP1 := BP.aft b1
  have BN1 := BN.aft b1
  have a1 := a0.trans b1
  clear x0 xf xl BT BO BP BN a0 b1 hbs hT
  have HQ := Lib.hid hob
  clear hob
  refine wpIn_wide.1 (wpIn_rangeFunc_round (n := 5) (F := Fence.wide) rfl (by omega) (gf := 68) (lb := #[.pointer (some ⟨ob + 3, 0, none⟩)]) rfl trivial (enters_of Tryd.func68 (by kernel_rfl) rfl)
    (encs := fun x : Nat × (Nat → Prop) × Int => encS ((chs s).getD x.1 default) x.2.2) (fun _ => rfl)
    (fun x W => CloAt w1 ob s x.1 x.2.1 W ∧ x.1 < (chs s).length)
    (fun x W W' => x.2.1 (w1.heap.size + 1) ∧ ∃ S', CloAt w1 ob s (x.1 + 1) S' W' ∧ Frm x.2.1 W W' ∧ ∀ j, S' j → x.2.1 j ∨ W.heap.size ≤ j)
    (fun W => ∃ S, CloAt w1 ob s (chs s).length S W)
    ?round ?stay ?call ?fin ?done)
  case stay =>
    rintro x W Wa Wb ⟨h1, S', h2, h3, h4⟩ hF
    exact ⟨h1, S', h2.frm hqq (Nat.le_refl _) (.inl rfl) hF, h3.trans hF (fun j hj e => by rw [e]; exact h1), h4⟩
  case fin =>
    rintro Wa Wb ⟨S, h⟩ hF
    exact ⟨S, h.frm hqq (Nat.le_refl _) (.inl rfl) hF⟩
  case call =>
    intro W1 hF1 hW1 Rdy hsz hst hR1 hY
    have hY' : ∀ k S W (hk : k < (chs s).length) e, (CloAt w1 ob s k S W ∧ Rdy W) → YieldAt Fence.wide (5 - 1 - 1) Tryd.prog (w1.heap.size + 1) (encS ((chs s)[k]) e) W fun e W' =>
      (e = .returned (.bool true) ∧ ∃ S', (CloAt w1 ob s (k + 1) S' W' ∧ Rdy W') ∧ Frm S W W' ∧ ∀ j, S' j → S j ∨ W.heap.size ≤ j) ∨ (e = .returned (.bool false) ∧ False) := by
      intro k S W hk e h
      have e1 : encS ((chs s)[k]) e = encS ((chs s).getD k default) e := by rw [List.getD_eq_getElem?_getD, List.getElem?_eq_getElem hk]; rfl
      rw [e1]
      obtain ⟨fn, tmps, asg, bd, hy, hRo⟩ := hY (k, S, e) W ⟨h.1, hk⟩ h.2
      refine ⟨fn, tmps, asg, bd, hy, hRo.mono fun e w' h => ?_⟩
      obtain ⟨h1, ⟨_, S', h2, h3, h4⟩, h5⟩ := h
      exact .inl ⟨h1, S', ⟨h2, h5⟩, h3, h4⟩
    have T : Tells W1.heap.size (fun k S W => CloAt w1 ob s k S W ∧ Rdy W) := by
      refine ⟨?_, ?_⟩
      · rintro k S W ⟨⟨lv, p, v, h1, h2, h3, h4, h5, h6, h7⟩, _⟩ j hj
        rcases (h1 j).1 hj with e | e | e | e | e
        · rw [e]; exact h2.bld.blk.lt
        · rw [e]; exact h5.lt
        · omega
        · exact (h2.row.lt j e).2
        · exact (h2.bld.row e).2
      · rintro k S W W' i hi hS ⟨h, hr⟩ hF
        have h5 : w1.heap.size + 1 < W.heap.size := by obtain ⟨_, _, _, _, _, _, _, _, _, h5⟩ := h; exact h5
        exact ⟨h.frm hqq (by omega) (.inr hS) hF, hst _ _ hr (Two.of_frm hF h5 (by omega) (by omega))⟩
    have I0 : CloAt w1 ob s 0 (fun j => j = ob ∨ j = ob + 1 + 1 ∨ j = w1.heap.size + 1 ∨ (Value.slice none 0 0).ownBlock = some j ∨ (Value.slice none 0 0).ownBlock = some j) W1 :=
      ⟨.slice none 0 0, .pointer none, .slice none 0 0, fun _ => Iff.rfl, ⟨⟨BO1.frm hF1 id, rfl, rfl, .inl rfl, World.ownsRow_nil _ _ _ _, by simp [Value.ownBlock], fun _ => rfl, by kernel_rfl⟩, Ints.nil _ _ _ _⟩, (fun j e => by simp [Value.ownBlock] at e), (fun j e => by simp [Value.ownBlock] at e),
        BN1.frm hF1 id, hF1.mono (fun _ _ e => e.elim), hW1⟩
    have hqw := HQ.out
    have := iter_spots (BS.frm hF1 id) (tabs_frm HT1 hF1 id id) T (Jx := fun _ => False) ⟨I0, hR1⟩ (fun j hj => by
      rcases hj with e | e | e | e | e
      · omega
      · omega
      · omega
      · simp [Value.ownBlock] at e
      · simp [Value.ownBlock] at e) (by omega) (d := 5 - 1) (by omega) hY'
    refine this.mono ?_
    rintro e W2 ⟨hv, (⟨S, h1, h2⟩ | h)⟩
    · exact ⟨hv, ⟨S, h1⟩, h2⟩
    · exact h.elim
  case round =>
    rintro ⟨k, S, e⟩ W K hW ⟨hA, hkl⟩ hK
    obtain ⟨lv, p, v, hS, hO, hlv, hvv, hN, hF, hsz⟩ := hA
    simp only at hS hO hlv hvv hN hkl ⊢
    have hsS : cloT s (k + 1) = cloS (cloT s k) ((chs s).getD k default).r (cut s ((chs s).getD k default)) := rfl
    have hlR : lastR s (k + 1) = ((chs s).getD k default).r := rfl
    have hl13 := lastR_13 (s := s) (k := k)
    have hlen := cloT_len s k (by omega)
    have hseg := seg_len s k
    have hcp := chA_mem s 0 _ (getD_mem0 default hkl)
    have hcl2 := chs_len s
    have hcut := cut_len (s := s) (c := (chs s).getD k default)
    obtain ⟨c, hc⟩ : ∃ c, (chs s).getD k default = c := ⟨_, rfl⟩
    have hc0 : (chA s 0).getD k default = c := hc
    rw [hc0] at hcp
    rw [hc] at hsS hlR hcut ⊢
    have hcut := hcut hcp.2.2.2.2.2
    have hq0 : w.heap.size < ob := by have := HQ.out; omega
    have hT2 := BT1.frm hF (by omega)
    have hP2 := BP1.frm hF (by omega)
    rcases hst : cloT s k with ⟨L, out⟩
    rw [hst] at hsS hl13 hlen hO
    simp only at hl13 hlen hO
    obtain ⟨r, cb, cn⟩ := c
    simp only at hcp hcut hsS hlR
    obtain ⟨-, hb1, -, -, hn1, hbn⟩ := hcp
    obtain ⟨ct, hct⟩ : ∃ ct, cut s ⟨r, cb, cn⟩ = ct := ⟨_, rfl⟩
    rw [hct] at hcut hsS
    have hex : s.extract cb (cb + cn) = txt ct := by rw [← hct]; exact (txt_of _).symm
    have hLk : L.length ≤ 1099511627776 := by omega
    have hLk1 : L.length + 1 ≤ 1099511627776 := by omega
    have hoL : out.length + 4 * L.length ≤ 6597069766656 := by omega
    have hctl : ct.length ≤ 1099511627776 := by omega
    clear hst hct hc hc0 hlen hseg
    simp only [encS, List.zip_toArray, List.zip_cons_cons, List.zip_nil_right, List.foldl_toArray, List.foldl_cons, List.foldl_nil, List.setIfInBounds_toArray, List.set_cons_zero, List.set_cons_succ]
    gi_wp2
    have FA := (Frm.refl (fun _ => False) W).alloc (.cells #[.int .i64 cb, .int .i64 cn, .int .i32 r, .int .i64 e] 96)
    refine hK _ _ (Two.of_frm (F := fun _ => False) FA hW id id) ?_
    intro W2 hF2
    have F2 := (FA.mono (F' := fun i => i = w1.heap.size + 1) (fun _ _ e => e.elim)).trans hF2 (fun _ _ e => e)
    have S2 := (Blk.new W 96 #[.int .i64 cb, .int .i64 cn, .int .i32 r, .int .i64 e]).frm hF2 (by omega)
    have O2 := hO.frm F2 (by omega) (fun j hj e => by have := hlv j hj; omega) (fun j hj e => by have := hvv j hj; omega)
    have N2 := hN.frm F2 (by omega)
    have T2 := hT2.frm F2 (by omega)
    have P2 := hP2.frm F2 (by omega)
    have hz2 := F2.size
    have fin : ∀ W' lv' p' v' L' out', OpAt W' ob lv' p' v' L' out' → Frm (fun j => j = ob ∨ j = ob + 1 + 1 ∨ lv.ownBlock = some j ∨ v.ownBlock = some j) W2 W' → (lv'.ownBlock = lv.ownBlock ∨ ∀ j, lv'.ownBlock = some j → W2.heap.size ≤ j) → (v'.ownBlock = v.ownBlock ∨ ∀ j, v'.ownBlock = some j → W2.heap.size ≤ j) →
        Blk W' (ob + 1 + 1) 21 #[.int .i32 r] → (L', out') = cloS (L, out) r ct → Two w1.heap.size W2 W' ∧ S (w1.heap.size + 1) ∧ ∃ S', CloAt w1 ob s (k + 1) S' W' ∧ Frm S W W' ∧ ∀ j, S' j → S j ∨ W.heap.size ≤ j := fun W' lv' p' v' L' out' g1 g2 g3 g4 g5 g6 =>
      clo_end hqq hS hlv hvv hF hsz F2 g2 (by rw [hsS, ← g6]; exact g1) (by rw [hlR]; exact g5) g3 g4
    have FIN := Lib.hid fin
    have hwb : ∀ W3 : World, W2.heap.size ≤ W3.heap.size → ob + 1 ≤ W3.heap.size := fun W3 h => by omega
    have hlvW : ∀ j, lv.ownBlock = some j → j < W.heap.size := fun j e => (hO.row.lt j e).2
    have hvW : ∀ j, v.ownBlock = some j → j < W.heap.size := fun j e => (hO.bld.row e).2
    clear fin hS hO hN hT2 hP2 hK hsS hlR FA hF2
    obtain ⟨x0, x1, x2, x3, xf, xl⟩ := S2.c4
    obtain ⟨n0, nf, nl⟩ := N2.c1
    obtain ⟨t0, tf, tl⟩ := T2.c1
    obtain ⟨p0, pf, pl⟩ := P2.c1
    have hEn := fun (W : World) => ends_ok W r
    have HEX := Lib.hid hex
    clear hex
    gi_upto_region 5 with (fail)
    gi_cut [6] from 13 (fun fv wx => fv = .func (.func 63) #[] #[] ∧ wx = W2)
    case first =>
        gi_wp2
        gi_meet
        exact ⟨rfl, rfl⟩
    obtain ⟨rfl, hwx⟩ := hcut
    rw [hwx]
    clear hwx wc
    apply_assumption
    gi_step
    gi_cut [6, 7] from 13 (fun fv rv wx => ∃ lv' p' v' L' out', OpAt wx ob lv' p' v' L' out' ∧ Frm (fun j => j = ob ∨ j = ob + 1 + 1 ∨ lv.ownBlock = some j ∨ v.ownBlock = some j) W2 wx ∧ (lv'.ownBlock = lv.ownBlock ∨ ∀ j, lv'.ownBlock = some j → W2.heap.size ≤ j) ∧ (v'.ownBlock = v.ownBlock ∨ ∀ j, v'.ownBlock = some j → W2.heap.size ≤ j) ∧
      L'.length ≤ 1099511627776 ∧ out'.length + 4 * L'.length ≤ 35184372088832 ∧ Blk wx (ob + 1 + 1) 21 #[.int .i32 (lastR s k)] ∧
      ((fv = .func (.func 63) #[] #[] ∧ (L', out' ++ ct) = cloS (L, out) r ct) ∨ (fv = .func (.func 65) #[.pointer (some ⟨ob, 0, none⟩)] #[] ∧ (r : Int) = 8236 ∧ L' = L ∧ out' = out) ∨ (fv = .func (.func 66) #[.pointer (some ⟨ob, 0, none⟩)] #[] ∧ (r : Int) = 8297 ∧ L' = L ∧ out' = out)))
    case first =>
      rcases he : endC r with _ | _
      · rw [he] at hEn
        gi_upto_if 15 with (refine ⟨trivial, (CallsIn.inRound (w1.heap.size + 1) (callsIn_wide.2 (hEn _))).mono ?_⟩; rintro r5 w5 ⟨rfl, hw5⟩; rw [hw5]; clear hw5 w5)
        gi_step
        gi_step
        gi_cut [26] from 27 (fun bv wx => bv = .bool (embC r) ∧ wx = W2)
        case first =>
            gi_wp2
            all_goals
              gi_meet
              refine ⟨congrArg Value.bool ?_, rfl⟩
              unfold embC
              simp [*]
        obtain ⟨rfl, hwx⟩ := hcut
        rw [hwx]
        clear hwx wc
        apply_assumption
        rcases hm : embC r with _ | _
        · gi_step
          gi_step
          gi_cut [44] from 45 (fun bv wx => bv = .bool (isoC r) ∧ wx = W2)
          case first =>
              gi_wp2
              all_goals
                gi_meet
                refine ⟨congrArg Value.bool ?_, rfl⟩
                unfold isoC
                simp [*]
          obtain ⟨rfl, hwx⟩ := hcut
          rw [hwx]
          clear hwx wc
          apply_assumption
          rcases hi : isoC r with _ | _
          · rcases h36 : ((r : Int) == 8236) with _ | _
            · rcases h97 : ((r : Int) == 8297) with _ | _
              · gi_wp2
                gi_meet
                exact ⟨_, _, _, _, _, O2, Frm.refl _ _, .inl rfl, .inl rfl, hLk, by omega, N2, .inl ⟨rfl, by unfold cloS; rw [if_neg (by rw [he]; simp), if_neg (by rw [hm]; simp), if_neg (by rw [hi]; simp), if_neg (by simpa using h36), if_neg (by simpa using h97)]⟩⟩
              · gi_wp2
                gi_meet
                exact ⟨_, _, _, _, _, O2, Frm.refl _ _, .inl rfl, .inl rfl, hLk, by omega, N2, .inr (.inr ⟨rfl, by simpa using h97, rfl, rfl⟩)⟩
            · gi_wp2
              gi_meet
              exact ⟨_, _, _, _, _, O2, Frm.refl _ _, .inl rfl, .inl rfl, hLk, by omega, N2, .inr (.inl ⟨rfl, by simpa using h36, rfl, rfl⟩)⟩
          · obtain ⟨g, cap, W5, hap, r5, g5, hg5⟩ := app_one O2.row 8297 hLk (by omega)
            obtain ⟨o0, o1, o2, of, ol⟩ := O2.bld.blk.c3
            have lne : ∀ x, x < w1.heap.size → some x ≠ lv.ownBlock := fun x hx e => by have := hlv x e.symm; omega
            have P5 := (P2.alloc (.cells #[.int .i32 8297] 21)).drew.grown g5 (lne _ (by omega))
            have Ob5 := (O2.bld.blk.alloc (.cells #[.int .i32 8297] 21)).drew.grown g5 (lne _ (by omega))
            obtain ⟨pp0, ppf, ppl⟩ := P5.c1
            obtain ⟨oo0, oo1, oo2, oof, ool⟩ := Ob5.c3
            obtain ⟨Q1, Q2, Q3⟩ := push_ok (B := w1.heap.size) O2 (fun j e => by have := hlv j e; omega) hqq r5 g5 hg5
            have Q4 := Q2.mono (F' := fun j => j = ob ∨ j = ob + 1 + 1 ∨ lv.ownBlock = some j ∨ v.ownBlock = some j) (fun _ _ e => by
              rcases e with e | e
              · exact .inl e
              · exact .inr (.inr (.inl e)))
            have QQ := Lib.hid (And.intro Q1 (And.intro Q4 (And.intro Q3 (N2.frm Q2 (fun e => by
              rcases e with e | e
              · omega
              · have := hlv _ e; omega)))))
            clear Q1 Q2 Q3 Q4
            gi_upto_region 18 with (fail)
            gi_region_with (fail)
            all_goals
              gi_wp2
              gi_meet
              obtain ⟨q1, q2, q3, q4⟩ := QQ.out
              exact ⟨_, _, _, _, _, q1, q2, q3, .inl rfl, by simp; omega, by simp; omega, q4, .inl ⟨rfl, by unfold cloS; rw [if_neg (by rw [he]; simp), if_neg (by rw [hm]; simp), if_pos hi]⟩⟩
        · obtain ⟨g, cap, W5, hap, r5, g5, hg5⟩ := app_one O2.row 8236 hLk (by omega)
          obtain ⟨o0, o1, o2, of, ol⟩ := O2.bld.blk.c3
          have lne : ∀ x, x < w1.heap.size → some x ≠ lv.ownBlock := fun x hx e => by have := hlv x e.symm; omega
          have P5 := (P2.alloc (.cells #[.int .i32 8236] 21)).drew.grown g5 (lne _ (by omega))
          have Ob5 := (O2.bld.blk.alloc (.cells #[.int .i32 8236] 21)).drew.grown g5 (lne _ (by omega))
          obtain ⟨pp0, ppf, ppl⟩ := P5.c1
          obtain ⟨oo0, oo1, oo2, oof, ool⟩ := Ob5.c3
          obtain ⟨Q1, Q2, Q3⟩ := push_ok (B := w1.heap.size) O2 (fun j e => by have := hlv j e; omega) hqq r5 g5 hg5
          have Q4 := Q2.mono (F' := fun j => j = ob ∨ j = ob + 1 + 1 ∨ lv.ownBlock = some j ∨ v.ownBlock = some j) (fun _ _ e => by
            rcases e with e | e
            · exact .inl e
            · exact .inr (.inr (.inl e)))
          have QQ := Lib.hid (And.intro Q1 (And.intro Q4 (And.intro Q3 (N2.frm Q2 (fun e => by
            rcases e with e | e
            · omega
            · have := hlv _ e; omega)))))
          clear Q1 Q2 Q3 Q4
          gi_upto_region 14 with (fail)
          gi_region_with (fail)
          all_goals
            gi_wp2
            gi_meet
            obtain ⟨q1, q2, q3, q4⟩ := QQ.out
            exact ⟨_, _, _, _, _, q1, q2, q3, .inl rfl, by simp; omega, by simp; omega, q4, .inl ⟨rfl, by unfold cloS; rw [if_neg (by rw [he]; simp), if_pos hm]⟩⟩
      · rw [he] at hEn
        have hcl1 : cloS (L, out) r ct = ([], out ++ clsF L ++ ct) := by unfold cloS; rw [if_pos he]
        rcases h10 : ((r : Int) != 10) with _ | _
        · rcases hl : ((lastR s k) != 13) with _ | _
          · have hL0 : L = [] := hl13 (by simpa using hl)
            subst hL0
            gi_wp2
            refine ⟨trivial, (CallsIn.inRound (w1.heap.size + 1) (callsIn_wide.2 (hEn _))).mono ?_⟩
            rintro r5 w5 ⟨rfl, hw5⟩
            rw [hw5]
            clear hw5 w5
            gi_wp2
            gi_meet
            exact ⟨_, _, _, _, _, O2, Frm.refl _ _, .inl rfl, .inl rfl, hLk, by omega, N2, .inl ⟨rfl, by rw [hcl1]; simp [clsF]⟩⟩
          · gi_wp2
            refine ⟨trivial, (CallsIn.inRound (w1.heap.size + 1) (callsIn_wide.2 (hEn _))).mono ?_⟩
            rintro r5 w5 ⟨rfl, hw5⟩
            rw [hw5]
            clear hw5 w5
            gi_wp2
            refine ⟨trivial, (CallsIn.inRound (w1.heap.size + 1) (callsIn_wide.2 (all_ok O2 hLk (by omega)))).mono ?_⟩
            rintro r6 w6 ⟨p6, v6, rfl, O6, hv6, F6⟩
            gi_wp2
            gi_meet
            have hcf := clsF_len L
            exact ⟨_, _, _, _, _, O6, F6.mono (fun _ _ e => by
              rcases e with e | e
              · exact .inl e
              · exact .inr (.inr (.inr e))), .inr (fun j e => by simp [Value.ownBlock] at e), hv6, by simp, by simp only [List.length_append, List.length_nil]; omega, N2.frm F6 (fun e => by
              rcases e with e | e
              · omega
              · have := hvv _ e; omega), .inl ⟨rfl, by rw [hcl1]⟩⟩
        · gi_wp2
          refine ⟨trivial, (CallsIn.inRound (w1.heap.size + 1) (callsIn_wide.2 (hEn _))).mono ?_⟩
          rintro r5 w5 ⟨rfl, hw5⟩
          rw [hw5]
          clear hw5 w5
          gi_wp2
          refine ⟨trivial, (CallsIn.inRound (w1.heap.size + 1) (callsIn_wide.2 (all_ok O2 hLk (by omega)))).mono ?_⟩
          rintro r6 w6 ⟨p6, v6, rfl, O6, hv6, F6⟩
          gi_wp2
          gi_meet
          have hcf := clsF_len L
          exact ⟨_, _, _, _, _, O6, F6.mono (fun _ _ e => by
            rcases e with e | e
            · exact .inl e
            · exact .inr (.inr (.inr e))), .inr (fun j e => by simp [Value.ownBlock] at e), hv6, by simp, by simp only [List.length_append, List.length_nil]; omega, N2.frm F6 (fun e => by
            rcases e with e | e
            · omega
            · have := hvv _ e; omega), .inl ⟨rfl, by rw [hcl1]⟩⟩
    case rest =>
      obtain ⟨lv', p', v', L', out', h1, h2, h3, h4, h5, h6, h7, h8⟩ := hcut
      apply_assumption
      have N3 := h7
      obtain ⟨n0, nf, nl⟩ := N3.c1
      have S3 := S2.frm h2 (fun e => by
        rcases e with e | e | e | e
        · omega
        · omega
        · have := hlvW _ e; omega
        · have := hvW _ e; omega)
      obtain ⟨y0, y1, y2, y3, yf, yl⟩ := S3.c4
      gi_upto_region 24 with (fail)
      have F6 := (Frm.refl (fun j => j = ob + 1 + 1) wc).set (b := ob + 1 + 1) (j := 0) rfl (.int .i32 (r : Int))
      have L6 : Blk (wc.setCell ⟨ob + 1 + 1, 0, none⟩ (.int .i32 (r : Int))) (ob + 1 + 1) 21 #[.int .i32 r] := by have := N3.set_ 0 (.int .i32 (r : Int)); simpa using this
      have hown : ∀ (x : Value), (∀ j, x.ownBlock = some j → w1.heap.size + 2 ≤ j) → ∀ x' : Value, (x'.ownBlock = x.ownBlock ∨ ∀ j, x'.ownBlock = some j → W2.heap.size ≤ j) → ∀ j, x'.ownBlock = some j → w1.heap.size + 2 ≤ j := fun x hx x' hh j e => by
        rcases hh with hh | hh
        · exact hx j (by rw [← hh]; exact e)
        · have := hh j e; omega
      have hl6 := hown lv hlv lv' h3
      have hv6 := hown v hvv v' h4
      have O6 := h1.frm F6 (by omega) (fun j e => by have := hl6 j e; omega) (fun j e => by have := hv6 j e; omega)
      have FF6 : Frm (fun j => j = ob ∨ j = ob + 1 + 1 ∨ lv.ownBlock = some j ∨ v.ownBlock = some j) W2 (wc.setCell ⟨ob + 1 + 1, 0, none⟩ (.int .i32 (r : Int))) := h2.trans F6 (fun _ _ e => .inr (.inl e))
      generalize wc.setCell ⟨ob + 1 + 1, 0, none⟩ (.int .i32 (r : Int)) = W6 at *
      clear n0 nf nl y0 y1 y2 y3 yf yl S3 N3 F6 h1 h2 h7
      rcases h8 with ⟨rfl, heq⟩ | ⟨rfl, hr6, rfl, rfl⟩ | ⟨rfl, hr6, rfl, rfl⟩
      · have HEQ := Lib.hid heq
        clear heq
        gi_wp2
        refine ⟨trivial, (CallsIn.inRound (w1.heap.size + 1) (callsIn_wide.2 (closed1_ok _))).mono ?_⟩
        rintro r5 w5 ⟨rfl, hw5⟩
        rw [hw5]
        clear hw5 w5
        gi_wp2
        obtain ⟨o0, o1, o2, of, ol⟩ := O6.bld.blk.c3
        have hFF7 : ∀ j, (j = ob ∨ j = ob + 1 + 1 ∨ lv.ownBlock = some j ∨ v.ownBlock = some j) → j ≠ W.heap.size ∧ j ≠ w.heap.size ∧ j ≠ ob + 1 := fun j e => by
          rcases e with e | e | e | e
          · omega
          · omega
          · have := hlv j e; have := hlvW j e; omega
          · have := hvv j e; have := hvW j e; omega
        obtain ⟨y0, y1, y2, y3, yf, yl⟩ := (S2.frm FF6 (fun e => (hFF7 _ e).1 rfl)).c4
        obtain ⟨s0, sf, sl⟩ := (T2.frm FF6 (fun e => (hFF7 _ e).2.1 rfl)).c1
        obtain ⟨z0, zf, zl⟩ := (P2.frm FF6 (fun e => (hFF7 _ e).2.2 rfl)).c1
        have hw7 := FF6.size
        refine wpIn_region_midR 12 (by kernel_rfl) (by kernel_rfl) (by kernel_rfl) rfl rfl ?_
        simp only [List.take_succ_cons, List.take_zero]
        repeat (refine still_plain rfl rfl ?_; intro K hK; go_wp2)
        refine wpStill_nil ?_
        intro K hK
        gi_wp2
        have D7 := O6.bld.frm ((Frm.refl (fun _ => False) W6).drew) id (fun _ _ => id)
        refine ⟨trivial, (CallsIn.inRound (w1.heap.size + 1) (callsIn_wide.2 (WriteString_ok D7 (by rw [HEX.out, txt_size]; omega) (by show ob + 1 ≤ W6.heap.size; omega)))).mono ?_⟩
        rintro r8 w8 ⟨rfl, v8, D8, F8, hv8⟩
        rw [HEX.out, txt_list] at D8
        have F9 : Frm (fun j => j = ob ∨ v'.ownBlock = some j) W6 w8 := ((Frm.refl (fun j => j = ob ∨ v'.ownBlock = some j) W6).drew).trans F8 (fun _ _ e => e)
        have O8 : OpAt w8 ob lv' (.pointer (some ⟨ob, 1, none⟩)) v8 L' (out' ++ ct) := ⟨D8, own_frm O6.row F9 (fun j e e2 => by
          rcases e2 with e2 | e2
          · have := (O6.row.lt j e).1; omega
          · exact O6.ne j e e2)⟩
        have hv9 : v8.ownBlock = v.ownBlock ∨ ∀ j, v8.ownBlock = some j → W2.heap.size ≤ j := by
          rcases hv8 with e | e
          · rw [e]; exact h4
          · right
            intro j hj
            rw [e] at hj
            injection hj with hj
            have : W6.drew.heap.size = W6.heap.size := rfl
            omega
        have FF9 : Frm (fun j => j = ob ∨ j = ob + 1 + 1 ∨ lv.ownBlock = some j ∨ v.ownBlock = some j) W2 w8 := FF6.trans F9 (fun j hj e => by
          rcases e with e | e
          · exact .inl e
          · rcases h4 with h | h
            · exact .inr (.inr (.inr (by rw [← h]; exact e)))
            · have := h j e; omega)
        have L8 := L6.frm F9 (fun e => by
          rcases e with e | e
          · omega
          · have := (O6.bld.row e).1
            rcases h4 with h | h
            · rw [h] at e; have := hvv _ e; omega
            · have := h _ e; omega)
        gi_wp2
        simp only [List.drop_succ_cons, List.drop_zero]
        repeat (refine still_plain rfl rfl ?_; intro K hK; go_wp2)
        refine wpStill_nil ?_
        gi_wp2
        exact FIN.out _ _ _ _ _ _ O8 FF9 h3 hv9 L8 HEQ.out
      · have O6e := O6
        have hE6 : endC (r : Int) = false ∧ embC (r : Int) = false ∧ isoC (r : Int) = false := by rw [hr6]; exact ⟨rfl, rfl, rfl⟩
        have hcl1 : cloS (L', out') r ct = if (embL L').isSome = true then ((embL L').getD L', out' ++ ct) else (L', out') := by
          unfold cloS
          rw [if_neg (by rw [hE6.1]; simp), if_neg (by rw [hE6.2.1]; simp), if_neg (by rw [hE6.2.2]; simp), if_pos hr6]
        have HCL := Lib.hid hcl1
        have hlenL : ((embL L').getD L').length ≤ L'.length := by
          rcases h : embL L' with _ | X
          · exact Nat.le_refl _
          · exact embL_len h
        clear hE6 hcl1 hEn
        gi_wp2
        refine ⟨trivial, (CallsIn.inRound (w1.heap.size + 1) (callsIn_wide.2 (embedded_ok O6 hLk))).mono ?_⟩
        rintro r5 W7 ⟨lv7, rfl, O7, hlo7, F7⟩
        have FF7 : Frm (fun j => j = ob ∨ j = ob + 1 + 1 ∨ lv.ownBlock = some j ∨ v.ownBlock = some j) W2 W7 := FF6.trans F7 (fun _ _ e => .inl e)
        have hlv7 : lv7.ownBlock = lv.ownBlock ∨ ∀ j, lv7.ownBlock = some j → W2.heap.size ≤ j := by rw [hlo7]; exact h3
        have L7b := L6.frm F7 (by omega)
        obtain ⟨em, hem⟩ : ∃ x, (embL L').isSome = x := ⟨_, rfl⟩
        rw [hem] at HCL ⊢
        rcases em with _ | _
        · have hnone : (embL L').getD L' = L' := by
            rcases h : embL L' with _ | X
            · rfl
            · rw [h] at hem; cases hem
          rw [hnone] at O7
          have heq8 : (L', out') = cloS (L', out') r ct := by rw [HCL.out, if_neg (by simp)]
          have HQ8 := Lib.hid heq8
          clear heq8
          gi_wp2
          exact FIN.out _ _ _ _ _ _ O7 FF7 hlv7 h4 L7b HQ8.out
        · have heq7 : ((embL L').getD L', out' ++ ct) = cloS (L', out') r ct := by rw [HCL.out, if_pos rfl]
          have HQ7 := Lib.hid heq7
          clear heq7 hem
          generalize (embL L').getD L' = L7 at *
          have h5 : L7.length ≤ 1099511627776 := by omega
          have h6 : out'.length + 4 * L7.length ≤ 35184372088832 := by omega
          gi_wp2
          obtain ⟨o0, o1, o2, of, ol⟩ := O7.bld.blk.c3
          have hFF7 : ∀ j, (j = ob ∨ j = ob + 1 + 1 ∨ lv.ownBlock = some j ∨ v.ownBlock = some j) → j ≠ W.heap.size ∧ j ≠ w.heap.size ∧ j ≠ ob + 1 := fun j e => by
            rcases e with e | e | e | e
            · omega
            · omega
            · have := hlv j e; have := hlvW j e; omega
            · have := hvv j e; have := hvW j e; omega
          obtain ⟨y0, y1, y2, y3, yf, yl⟩ := (S2.frm FF7 (fun e => (hFF7 _ e).1 rfl)).c4
          obtain ⟨s0, sf, sl⟩ := (T2.frm FF7 (fun e => (hFF7 _ e).2.1 rfl)).c1
          obtain ⟨z0, zf, zl⟩ := (P2.frm FF7 (fun e => (hFF7 _ e).2.2 rfl)).c1
          have hw7 := FF7.size
          refine wpIn_region_midR 12 (by kernel_rfl) (by kernel_rfl) (by kernel_rfl) rfl rfl ?_
          simp only [List.take_succ_cons, List.take_zero]
          repeat (refine still_plain rfl rfl ?_; intro K hK; go_wp2)
          refine wpStill_nil ?_
          intro K hK
          gi_wp2
          have D7 := O7.bld.frm ((Frm.refl (fun _ => False) W7).drew) id (fun _ _ => id)
          refine ⟨trivial, (CallsIn.inRound (w1.heap.size + 1) (callsIn_wide.2 (WriteString_ok D7 (by rw [HEX.out, txt_size]; omega) (by show ob + 1 ≤ W7.heap.size; omega)))).mono ?_⟩
          rintro r8 w8 ⟨rfl, v8, D8, F8, hv8⟩
          rw [HEX.out, txt_list] at D8
          have F9 : Frm (fun j => j = ob ∨ v'.ownBlock = some j) W7 w8 := ((Frm.refl (fun j => j = ob ∨ v'.ownBlock = some j) W7).drew).trans F8 (fun _ _ e => e)
          have O8 : OpAt w8 ob lv7 (.pointer (some ⟨ob, 1, none⟩)) v8 L7 (out' ++ ct) := ⟨D8, own_frm O7.row F9 (fun j e e2 => by
            rcases e2 with e2 | e2
            · have := (O7.row.lt j e).1; omega
            · exact O7.ne j e e2)⟩
          have hv9 : v8.ownBlock = v.ownBlock ∨ ∀ j, v8.ownBlock = some j → W2.heap.size ≤ j := by
            rcases hv8 with e | e
            · rw [e]; exact h4
            · right
              intro j hj
              rw [e] at hj
              injection hj with hj
              have : W7.drew.heap.size = W7.heap.size := rfl
              omega
          have FF9 : Frm (fun j => j = ob ∨ j = ob + 1 + 1 ∨ lv.ownBlock = some j ∨ v.ownBlock = some j) W2 w8 := FF7.trans F9 (fun j hj e => by
            rcases e with e | e
            · exact .inl e
            · rcases h4 with h | h
              · exact .inr (.inr (.inr (by rw [← h]; exact e)))
              · have := h j e; omega)
          have L8 := L7b.frm F9 (fun e => by
            rcases e with e | e
            · omega
            · have := (O7.bld.row e).1
              rcases h4 with h | h
              · rw [h] at e; have := hvv _ e; omega
              · have := h _ e; omega)
          gi_wp2
          simp only [List.drop_succ_cons, List.drop_zero]
          repeat (refine still_plain rfl rfl ?_; intro K hK; go_wp2)
          refine wpStill_nil ?_
          gi_wp2
          exact FIN.out _ _ _ _ _ _ O8 FF9 hlv7 hv9 L8 HQ7.out
      · have O6e := O6
        have hE6 : endC (r : Int) = false ∧ embC (r : Int) = false ∧ isoC (r : Int) = false := by rw [hr6]; exact ⟨rfl, rfl, rfl⟩
        have hcl1 : cloS (L', out') r ct = if (isoL L').isSome = true then ((isoL L').getD L', out' ++ ct) else (L', out') := by
          unfold cloS
          rw [if_neg (by rw [hE6.1]; simp), if_neg (by rw [hE6.2.1]; simp), if_neg (by rw [hE6.2.2]; simp), if_neg (by rw [hr6]; decide), if_pos hr6]
        have HCL := Lib.hid hcl1
        have hlenL : ((isoL L').getD L').length ≤ L'.length := by
          rcases h : isoL L' with _ | X
          · exact Nat.le_refl _
          · exact isoT_len h
        clear hE6 hcl1 hEn
        gi_wp2
        refine ⟨trivial, (CallsIn.inRound (w1.heap.size + 1) (callsIn_wide.2 (isolated_ok O6 hLk))).mono ?_⟩
        rintro r5 W7 ⟨lv7, rfl, O7, hlo7, F7⟩
        have FF7 : Frm (fun j => j = ob ∨ j = ob + 1 + 1 ∨ lv.ownBlock = some j ∨ v.ownBlock = some j) W2 W7 := FF6.trans F7 (fun _ _ e => .inl e)
        have hlv7 : lv7.ownBlock = lv.ownBlock ∨ ∀ j, lv7.ownBlock = some j → W2.heap.size ≤ j := by rw [hlo7]; exact h3
        have L7b := L6.frm F7 (by omega)
        obtain ⟨em, hem⟩ : ∃ x, (isoL L').isSome = x := ⟨_, rfl⟩
        rw [hem] at HCL ⊢
        rcases em with _ | _
        · have hnone : (isoL L').getD L' = L' := by
            rcases h : isoL L' with _ | X
            · rfl
            · rw [h] at hem; cases hem
          rw [hnone] at O7
          have heq8 : (L', out') = cloS (L', out') r ct := by rw [HCL.out, if_neg (by simp)]
          have HQ8 := Lib.hid heq8
          clear heq8
          gi_wp2
          exact FIN.out _ _ _ _ _ _ O7 FF7 hlv7 h4 L7b HQ8.out
        · have heq7 : ((isoL L').getD L', out' ++ ct) = cloS (L', out') r ct := by rw [HCL.out, if_pos rfl]
          have HQ7 := Lib.hid heq7
          clear heq7 hem
          generalize (isoL L').getD L' = L7 at *
          have h5 : L7.length ≤ 1099511627776 := by omega
          have h6 : out'.length + 4 * L7.length ≤ 35184372088832 := by omega
          gi_wp2
          obtain ⟨o0, o1, o2, of, ol⟩ := O7.bld.blk.c3
          have hFF7 : ∀ j, (j = ob ∨ j = ob + 1 + 1 ∨ lv.ownBlock = some j ∨ v.ownBlock = some j) → j ≠ W.heap.size ∧ j ≠ w.heap.size ∧ j ≠ ob + 1 := fun j e => by
            rcases e with e | e | e | e
            · omega
            · omega
            · have := hlv j e; have := hlvW j e; omega
            · have := hvv j e; have := hvW j e; omega
          obtain ⟨y0, y1, y2, y3, yf, yl⟩ := (S2.frm FF7 (fun e => (hFF7 _ e).1 rfl)).c4
          obtain ⟨s0, sf, sl⟩ := (T2.frm FF7 (fun e => (hFF7 _ e).2.1 rfl)).c1
          obtain ⟨z0, zf, zl⟩ := (P2.frm FF7 (fun e => (hFF7 _ e).2.2 rfl)).c1
          have hw7 := FF7.size
          refine wpIn_region_midR 12 (by kernel_rfl) (by kernel_rfl) (by kernel_rfl) rfl rfl ?_
          simp only [List.take_succ_cons, List.take_zero]
          repeat (refine still_plain rfl rfl ?_; intro K hK; go_wp2)
          refine wpStill_nil ?_
          intro K hK
          gi_wp2
          have D7 := O7.bld.frm ((Frm.refl (fun _ => False) W7).drew) id (fun _ _ => id)
          refine ⟨trivial, (CallsIn.inRound (w1.heap.size + 1) (callsIn_wide.2 (WriteString_ok D7 (by rw [HEX.out, txt_size]; omega) (by show ob + 1 ≤ W7.heap.size; omega)))).mono ?_⟩
          rintro r8 w8 ⟨rfl, v8, D8, F8, hv8⟩
          rw [HEX.out, txt_list] at D8
          have F9 : Frm (fun j => j = ob ∨ v'.ownBlock = some j) W7 w8 := ((Frm.refl (fun j => j = ob ∨ v'.ownBlock = some j) W7).drew).trans F8 (fun _ _ e => e)
          have O8 : OpAt w8 ob lv7 (.pointer (some ⟨ob, 1, none⟩)) v8 L7 (out' ++ ct) := ⟨D8, own_frm O7.row F9 (fun j e e2 => by
            rcases e2 with e2 | e2
            · have := (O7.row.lt j e).1; omega
            · exact O7.ne j e e2)⟩
          have hv9 : v8.ownBlock = v.ownBlock ∨ ∀ j, v8.ownBlock = some j → W2.heap.size ≤ j := by
            rcases hv8 with e | e
            · rw [e]; exact h4
            · right
              intro j hj
              rw [e] at hj
              injection hj with hj
              have : W7.drew.heap.size = W7.heap.size := rfl
              omega
          have FF9 : Frm (fun j => j = ob ∨ j = ob + 1 + 1 ∨ lv.ownBlock = some j ∨ v.ownBlock = some j) W2 w8 := FF7.trans F9 (fun j hj e => by
            rcases e with e | e
            · exact .inl e
            · rcases h4 with h | h
              · exact .inr (.inr (.inr (by rw [← h]; exact e)))
              · have := h j e; omega)
          have L8 := L7b.frm F9 (fun e => by
            rcases e with e | e
            · omega
            · have := (O7.bld.row e).1
              rcases h4 with h | h
              · rw [h] at e; have := hvv _ e; omega
              · have := h _ e; omega)
          gi_wp2
          simp only [List.drop_succ_cons, List.drop_zero]
          repeat (refine still_plain rfl rfl ?_; intro K hK; go_wp2)
          refine wpStill_nil ?_
          gi_wp2
          exact FIN.out _ _ _ _ _ _ O8 FF9 hlv7 hv9 L8 HQ7.out
  case done =>
    rintro W ⟨S, lv, p, v, hS, hO, hlv, hvv, hN, hF, hsz⟩ hK
    have aW : Aft w W := Below.trans a1 (Frm.below hF (by have := a1.size; omega) (fun i hi e => by have := HQ.out; omega))
    obtain ⟨p0, pf, pl⟩ := (BP1.frm hF (by omega)).c1
    have hlen := cloT_len s (chs s).length (Nat.le_refl _)
    have hseg := seg_len s (chs s).length
    have hcl2 := chs_len s
    have hAll := all_ok hO (by omega) (by omega)
    have hw1 := a1.size
    have hwo := HQ.out
    have hws := aW.size
    have key : ∀ w6 p6 v6, OpAt w6 ob (.slice none 0 0) p6 v6 [] ((cloT s (chs s).length).2 ++ clsF (cloT s (chs s).length).1) → (v6.ownBlock = v.ownBlock ∨ ∀ j, v6.ownBlock = some j → W.heap.size ≤ j) → Frm (fun j => j = ob ∨ v.ownBlock = some j) W w6 →
        Calls Tryd.prog 43 #[.pointer (some ⟨ob, 1, none⟩)] w6 fun e w' => e = .returned (.string (txt (cloF s))) ∧ Aft w w' ∧ w'.heap[w1.heap.size]? = some (.deferred (some [])) ∧ w1.heap.size ≤ w'.heap.size := fun w6 p6 v6 O6 hv6 F6 => by
      have hvo : ∀ j, v6.ownBlock = some j → w1.heap.size + 2 ≤ j := fun j e => by
        rcases hv6 with h | h
        · exact hvv j (by rw [← h]; exact e)
        · have := h j e; omega
      have a6 : Aft w w6 := Below.trans aW (F6.below hws (fun j hj e => by
        rcases e with e | e
        · omega
        · have := hvv j e; omega))
      refine (String_ok O6.bld.r).mono ?_
      rintro r9 w9 ⟨rfl, -, F9⟩
      refine ⟨rfl, Below.trans a6 (F9.below a6.size (fun j hj e => by have := hvo j e; omega)), ?_, by have := F9.size; have := F6.size; omega⟩
      rw [F9.block _ (by have := F6.size; omega) (fun e => by have := hvo _ e; omega), F6.block _ (by omega) (fun e => by
        rcases e with e | e
        · omega
        · have := hvv _ e; omega)]
      exact hK
    have P6 : ∀ w6, Frm (fun j => j = ob ∨ v.ownBlock = some j) W w6 → w6.cell? ⟨ob + 1, 0, none⟩ = some (.pointer (some ⟨ob, 0, none⟩)) := fun w6 F6 => (((BP1.frm hF (by omega)).frm F6 (fun e => by
        rcases e with e | e
        · omega
        · have := hvv _ e; omega)).c1).1
    have KEY := Lib.hid key
    clear key hlen hseg hN hS hO hlv hvv hwo hF aW
    go_wp2_with (first
      | (go_at_call 64; refine hAll.mono ?_; rintro r6 w6 ⟨p6, v6, rfl, O6, hv6, F6⟩; have c6 := P6 _ F6; have CK := KEY.out _ _ _ O6 hv6 F6; clear hv6)
      | (go_at_call 43; refine CK.mono ?_; rintro r9 w9 ⟨rfl, a9, hd9, hz9⟩))
    have FF := (Frm.refl (fun k => k = w1.heap.size) w9).put (k := w1.heap.size) rfl (.deferred none)
    refine ⟨by simp, .inl ⟨_, _, rfl, run_takeDeferred hd9, ?_⟩⟩
    refine ⟨_, results_tmp rfl _ _ _, rfl, Below.trans a9 (FF.below a9.size (fun k hk e => by omega))⟩
end Go.Proofs.YtaekdnfpgkfjkaaDoor
