/- SpansRuns walked. -/
import Derived.Test.YthifeccmbojcdaaG6
import Derived.Test.YthifeccmbojcdaaG2
import Derived.Test.YthifeccmbojcdaaG8
namespace Go.Proofs.Ythifeccmbojcdaa
open Go.RowKit Go.Shelf
attribute [local go_sem] Oper.semAt_some

@[go_sem] theorem eql45_nil (w : World) (f : FuncId) (a b : Array Value) : (binOp .eql 45 (.func (.func f) a b) .nilFunc).run Try.prog w = .ok (.bool false) w := by kernel_rfl

theorem GrpAt.frm1 {W W' : World} {B q : Nat} {v : Value} {L : List Gr} (h : GrpAt W B v L) (hF : Frm (fun k => k = q) W W') (hq : q < B) : GrpAt W' B v L :=
  ⟨own_frm h.row hF (fun k e => by have := (World.ownsRow.lt h.row k e).1; omega), fun e he => (h.each e he).frm hF (fun k e2 => by have := ((h.each e he).lt k e2).1; omega), h.apart, h.out⟩

set_option maxRecDepth 100000 in
set_option maxHeartbeats 8000000 in
theorem runs_walk {w : World} {n n2 c c2 : Nat} {A A2 : Option Addr} {most : Int} {cl lv : List Int} (hn : n = cl.length) (hn2 : n2 = lv.length) (h : RdInts w w.heap.size .u8 A cl) (h2 : RdInts w w.heap.size .i8 A2 lv) (hl : n ≤ 1048576) :
    Calls Try.prog 8 #[.slice A n c, .slice A2 n2 c2, .int .i64 most] w fun e w' => e = .returned (.bool true) ∧ Below w.heap.size w w' := by
  subst hn
  have HN2 := Lib.hid hn2
  refine (callsIn_wide (n := 5)).1 ?_
  refine callsIn_of_wp_marks Try.func8 rfl trivial ?_ rfl
  simp only [Try.ntmps8, List.size_toArray, List.length_cons, List.length_nil, Nat.reduceAdd, Nat.reduceSub, Array.replicate_succ, Array.replicate_zero, List.push_toArray, List.append_toArray, List.nil_append, List.cons_append]
  refine wpIn_wide.2 ?_
  have B0 : Blk ((w.alloc (.cells #[.int .i64 most] 3)).alloc (.cells #[.bool false] 4)) w.heap.size 3 #[.int .i64 most] := (Blk.new w 3 _).alloc _
  have B1 : Blk ((w.alloc (.cells #[.int .i64 most] 3)).alloc (.cells #[.bool false] 4)) (w.heap.size + 1) 4 #[.bool false] := Blk.at_ (by simp)
  have b0 : Below w.heap.size w ((w.alloc (.cells #[.int .i64 most] 3)).alloc (.cells #[.bool false] 4)) := ((Below.refl _ w).alloc (Nat.le_refl _) _).alloc (by simp) _
  clear hn2
  go_upto_region 8 with (first
    | (go_at_call 37; refine (awake17_ok _).mono ?_; rintro r1 w1 ⟨rfl, b1⟩
       have h1 := h.below (b0.trans (b1.mono b0.size)) (.inr (Nat.le_refl _)))
    | (go_at_call 28; refine (lent17_ok h1 (by omega)).mono ?_; rintro r2 w2 ⟨g, cap, rfl, I2, b2⟩)
    | (go_at_call 38; refine Runs_ok.mono ?_; rintro r3 w3 ⟨rfl, R1, R2, b3⟩))
  have b13 := b2.trans (b3.mono b2.size)
  have b01 := b0.trans (b1.mono b0.size)
  have b03 := b01.trans (b13.mono b01.size)
  have hs3 := b3.size
  have hs2 := b2.size
  have hs1 := b1.size
  simp only [World.size_alloc] at hs1
  have h3 := (h.below b03 (.inr (Nat.le_refl _))).alloc (.cells #[.slice none 0 0] 47)
  have q3 := (h2.below b03 (.inr (Nat.le_refl _))).alloc (.cells #[.slice none 0 0] 47)
  have B03 := (B0.below (b1.trans (b13.mono b1.size)) (by simp; omega))
  have B13 := (B1.below (b1.trans (b13.mono b1.size)) (by simp))
  have I3 := I2.below b3 (Nat.le_refl _)
  have C3 : Blk (w3.alloc (.cells #[.slice none 0 0] 47)) w3.heap.size 47 #[.slice none 0 0] := Blk.new _ _ _
  clear B0 B1 b0 b01 b13 I2 h1
  go_upto_if 27 with (fail)
  go_cut [] from 27 to 30 (fun W => ∃ (L : List Gr) (wA : Option Addr) (wc : Nat), Blk W w3.heap.size 47 #[.slice wA L.length wc] ∧ GrpAt W (w3.heap.size + 1) (.slice wA L.length wc) L ∧ L.map (fun e => (e.1, e.2.1)) = wantL cl lv ∧ Below w3.heap.size w3 W)
  case first =>
    by_cases he : cl.length = n2
    · have hE : ((cl.length : Int) == (n2 : Int)) = true := by simp [he]
      have HE := Lib.hid he
      have hbb : Below w3.heap.size w3 (w3.alloc (.cells #[.slice none 0 0] 47)) := (Below.refl _ w3).alloc (Nat.le_refl _) _
      clear he
      go_wp2_with (go_at_call 39; refine (rRuns_ok rfl HN2.out HE.out h3 q3 (by omega)).mono ?_; rintro r4 w4 ⟨wv, L, rfl, G4, hL, b4⟩; obtain ⟨wA, wc, rfl⟩ := row_shape G4.row; obtain ⟨v0, vf, vl⟩ := (C3.below b4 (by simp)).c1)
      go_meet
      have F := (Frm.refl (fun k => k = w3.heap.size) w4).set (b := w3.heap.size) (j := 0) rfl (.slice wA L.length wc)
      rw [World.size_alloc] at G4
      refine ⟨L, wA, wc, by simpa using (C3.below b4 (by simp)).set_ 0 (.slice wA L.length wc), G4.frm1 F (by omega), ?_, (hbb.trans (b4.mono (by simp))).setCell (p := ⟨w3.heap.size, 0, none⟩) (Nat.le_refl _) _⟩
      rw [hL]
      unfold wantL
      rw [if_pos (by have := HN2.out; have := HE.out; omega)]
    · have hE : ((cl.length : Int) == (n2 : Int)) = false := by simp; omega
      have HE := Lib.hid he
      clear he
      go_wp2
      go_meet
      refine ⟨[], none, 0, C3, GrpAt.nil _ _, ?_, (Below.refl _ w3).alloc (Nat.le_refl _) _⟩
      unfold wantL
      rw [if_neg (by have := HN2.out; have := HE.out; omega)]
      rfl
  case rest =>
    obtain ⟨L, wA, wc', BW, GW, hL, bw⟩ := hcut
    clear h3 q3 C3
    go_wp2
    have hbw := bw.size
    have hLt : L.length = (tellL cl lv).length := by rw [tell_want, ← hL, List.length_map]
    have HLT := Lib.hid hLt
    clear hLt
    have htl := tell_len cl lv
    have hin : RdInts w3 w3.heap.size .u8 (some ⟨g, 0, none⟩) cl := pre_rd I3.rd
    refine wp_loop_rounds 4 ?_
    have BR0 : Blk (wc.alloc (.cells #[.int .i64 0] 3)) wc.heap.size 3 #[.int .i64 0] := Blk.new _ _ _
    have bX0 : Below wc.heap.size wc (wc.alloc (.cells #[.int .i64 0] 3)) := (Below.refl _ _).alloc (Nat.le_refl _) _
    have hm0 : Marks wc.heap.size [] (wc.alloc (.cells #[.int .i64 0] 3)) := ⟨by simp, by simp⟩
    have hrw0 : wc.heap.size ≤ wc.heap.size := Nat.le_refl _
    generalize wc.alloc (.cells #[.int .i64 0] 3) = X0 at *
    rw [rounds_succ]
    obtain ⟨t0, tf, tl⟩ := BR0.c1
    go_wp2
    have BN0 : Blk (X0.alloc (.cells #[.int .i64 0] 3)) X0.heap.size 3 #[.int .i64 0] := Blk.new _ _ _
    have BR0' := BR0.alloc (.cells #[.int .i64 0] 3)
    have bY0 := bX0.alloc bX0.size (.cells #[.int .i64 0] 3)
    have mY0 := hm0.keep ((Frm.refl (fun _ => False) X0).alloc (.cells #[.int .i64 0] 3)) (fun _ _ => id)
    have hnb0 : X0.heap.size < (X0.alloc (.cells #[.int .i64 0] 3)).heap.size := by simp
    have hrb0 : wc.heap.size < X0.heap.size := BR0.lt
    have hXs0 := bX0.size
    clear t0 tf tl bX0 hm0 BR0
    generalize X0.alloc (.cells #[.int .i64 0] 3) = Y0 at *
    have bY3 := bw.trans (bY0.mono hbw)
    refine wpIn_wide.1 (wpIn_rangeFunc_break (n := 5) (F := Fence.wide) rfl (by omega) (gf := 63) (lb := #[.pointer (some ⟨w2.heap.size, 0, none⟩), .pointer (some ⟨w2.heap.size + 1, 0, none⟩)]) rfl trivial (enters_of Try.func63 (by kernel_rfl) rfl)
      (encs := fun x : Nat × (Nat → Prop) => ((tellL cl lv).getD x.1 default).encs) (fun _ => rfl) (Code.exit 2)
      (fun x W => NAt Y0 X0.heap.size x.1 x.2 W ∧ x.1 < (tellL cl lv).length) (NStep Y0 X0.heap.size) (fun _ _ _ => False) (fun W => ∃ S, NAt Y0 X0.heap.size (tellL cl lv).length S W) (fun _ => False)
      ?roundx1 ?st1x1 ?st2x1 ?callx1 ?finx1 ?finbx1 ?donex1 ?stopx1)
    case st1x1 =>
      rintro x W Wa Wb ⟨h1, S', h2, h3, h4⟩ hF
      exact ⟨h1, S', h2.frm hnb0 hF, h3.trans hF (fun j hj e => by rw [e]; exact h1), h4⟩
    case st2x1 => exact fun _ _ _ _ h _ => h
    case finx1 =>
      rintro Wa Wb ⟨S, h⟩ hF
      exact ⟨S, h.frm hnb0 hF⟩
    case finbx1 => exact fun _ _ h _ => h
    case callx1 =>
      intro W1 hF1 hW1 Rdy Dn hsz hst hR1 hY
      exact runs_call rfl HN2.out (R1.below bY3 R1.lt) (R2.below bY3 R2.lt) (hin.below bY3 (.inr (Nat.le_refl _))) (h2.below (b03.trans (bY3.mono b03.size)) (.inr (Nat.le_refl _))) (by omega) hnb0 BN0 hF1 hW1 hst hR1 (Rb := (fun _ _ _ => False)) (Finb := (fun _ => False)) (fun _ _ _ h => h) hY
    case roundx1 =>
      rintro ⟨j, S⟩ W K hW ⟨hA, hjl⟩ hK
      obtain ⟨hS, hB, hF, hsz⟩ := hA
      simp only at hS hB hjl ⊢
      obtain ⟨g', lg, a, b, hwl, hg0, hgn, hga, hgb, hbn, htl⟩ := tell_at hjl
      have hte : (tellL cl lv).getD j default = ⟨a, b + 1, lg⟩ := by rw [List.getD_eq_getElem?_getD, List.getElem?_eq_getElem hjl]; exact htl
      rw [← hL, List.getElem?_map] at hwl
      obtain ⟨⟨e1, e2, e3⟩, hel, hee⟩ := Option.map_eq_some_iff.1 hwl
      obtain ⟨hq1, hq2⟩ := Prod.mk.inj hee
      simp only at hq1 hq2
      subst hq1 hq2
      obtain ⟨og, gA, gc, rfl, hog, x0, x1, rg⟩ := GW.get hel
      simp only at rg
      obtain ⟨ga, go, rfl, _, hgas, hgc⟩ := rg.cells hg0
      have y0 := hgc 0 hg0
      have y1 := hgc (e1.length - 1) (by omega)
      rw [hga] at y0
      rw [hgb] at y1
      rw [Nat.add_zero] at y0
      have hLq : j < L.length := (List.getElem?_eq_some_iff.1 hel).1
      simp only at x0 x1
      rw [hte]
      simp only [Rn.encs, List.zip_toArray, List.zip_cons_cons, List.zip_nil_right, List.foldl_toArray, List.foldl_cons, List.foldl_nil, List.setIfInBounds_toArray, List.set_cons_zero, List.set_cons_succ]
      gi_wp2
      have FA := (Frm.refl (fun _ => False) W).alloc (.cells #[.int .i64 a, .int .i64 ((b : Int) + 1), .int .i8 e2] 50)
      refine hK _ _ (Two.of_frm FA hW id id) ?_
      intro W2 hF2
      have F2 := (FA.mono (F' := fun i => i = Y0.heap.size + 1) (fun _ _ e => e.elim)).trans hF2 (fun _ _ e => e)
      have FY : Frm (fun k => k = X0.heap.size ∨ k = Y0.heap.size + 1) Y0 W2 := (hF.mono (fun _ _ e => .inl e)).trans F2 (fun _ _ e => .inr e)
      have B2 := hB.frm F2 (by omega)
      have S2 := (Blk.new W 50 #[.int .i64 a, .int .i64 ((b : Int) + 1), .int .i8 e2]).frm hF2 (by omega)
      have hblk : ∀ k, k < wc.heap.size → W2.heap[k]? = wc.heap[k]? := fun k hk => (FY.block k (by have := bY0.size; omega) (by omega)).trans (bY0.block k hk)
      replace x0 := (World.cell?_of_block (a := ⟨og, j * 2, none⟩) (hblk og hog)).trans x0
      replace x1 := (World.cell?_of_block (a := ⟨og, j * 2 + 1, none⟩) (hblk og hog)).trans x1
      replace y0 := (World.cell?_of_block (a := ⟨ga, go, none⟩) (hblk ga hgas)).trans y0
      replace y1 := (World.cell?_of_block (a := ⟨ga, go + (e1.length - 1), none⟩) (hblk ga hgas)).trans y1
      have BW2 : Blk W2 w3.heap.size 47 #[.slice (some ⟨og, 0, none⟩) L.length wc'] := (hblk _ BW.lt).trans BW
      have BM2 : Blk W2 w.heap.size 3 #[.int .i64 most] := (hblk _ (Nat.lt_of_lt_of_le B03.lt hbw)).trans (B03.below bw B03.lt)
      have BRr := BR0'.frm FY (by omega)
      obtain ⟨m0, mf, ml⟩ := BM2.c1
      obtain ⟨v0, vf, vl⟩ := BW2.c1
      obtain ⟨n0, nf, nl⟩ := B2.c1
      obtain ⟨r0, rf, rl⟩ := BRr.c1
      obtain ⟨z0, z1, z2, zf, zl⟩ := S2.c3
      have hw1 : IntKind.i64.wrap ((e1.length : Int) - 1) = ((e1.length - 1 : Nat) : Int) := by rw [IntWalk.i64_in _ (by omega)]; omega
      have hw2 : IntKind.i64.wrap ((b : Int) + 1) = (b : Int) + 1 := IntWalk.i64_in _ (by omega)
      have hw3 : IntKind.i64.wrap ((j : Int) + 1) = (j : Int) + 1 := IntWalk.i64_in _ (by omega)
      have hE1 : ((a : Int) != (a : Int)) = false := bne_self_eq_false _
      have hE2 : ((b : Int) + 1 != (b : Int) + 1) = false := bne_self_eq_false _
      have hE3 : (e2 != e2) = false := bne_self_eq_false _
      have HS := Lib.hid hS
      clear hK hS hwl hel hee htl hte hga hgb hgc rg hblk
      gi_wp2
      refine wpIn_region_reads (fun _ => trivial) (by kernel_rfl) (by kernel_rfl) (by kernel_rfl) ?_
      repeat (first
        | (refine still_plain rfl rfl ?_; intro K hK; go_wp2)
        | (refine still_guard rfl ?_; intro K hK; rw [if_pos (by rfl)]; go_wp2))
      refine wpStill_nil ?_
      gi_wp2
      have F3 : Frm (fun k => k = X0.heap.size) W2 ((W2.setCell ⟨X0.heap.size, 0, none⟩ (.int .i64 ((j : Int) + 1))).drew) := ((Frm.refl (fun k => k = X0.heap.size) W2).set (b := X0.heap.size) (j := 0) rfl (.int .i64 ((j : Int) + 1))).drew
      have hN : NAt Y0 X0.heap.size (j + 1) (fun k => k = X0.heap.size ∨ k = Y0.heap.size + 1) ((W2.setCell ⟨X0.heap.size, 0, none⟩ (.int .i64 ((j : Int) + 1))).drew) :=
        ⟨fun _ => Iff.rfl, by have := (B2.set_ 0 (.int .i64 ((j : Int) + 1))).drew; simpa using this, hF.trans ((F2.mono (F' := fun k => k = Y0.heap.size + 1 ∨ k = X0.heap.size) (fun _ _ e => .inl e)).trans F3 (fun _ _ e => .inr e)) (fun k hk e => by omega), by have := F3.size; have := F2.size; omega⟩
      have hT : Two Y0.heap.size W2 ((W2.setCell ⟨X0.heap.size, 0, none⟩ (.int .i64 ((j : Int) + 1))).drew) := Two.of_frm F3 (by have := F2.size; omega) (by omega) (by omega)
      exact ⟨hT, (HS.out _).2 (.inr rfl), _, hN, (F2.mono (fun k _ e => (HS.out k).2 (.inr e))).trans F3 (fun k _ e => (HS.out k).2 (.inl e)), fun k e => .inl ((HS.out k).2 e)⟩
    case stopx1 =>
      exact fun _ h _ => h.elim
    case donex1 =>
      rintro W ⟨S, -, hB, hF, hsz⟩ hK
      rw [← HLT.out] at hB
      have hblk : ∀ k, k < wc.heap.size → W.heap[k]? = wc.heap[k]? := fun k hk => (hF.block k (by have := bY0.size; omega) (by omega)).trans (bY0.block k hk)
      have BW2 : Blk W w3.heap.size 47 #[.slice wA L.length wc'] := (hblk _ BW.lt).trans BW
      have BM2 : Blk W w.heap.size 3 #[.int .i64 most] := (hblk _ (Nat.lt_of_lt_of_le B03.lt hbw)).trans (B03.below bw B03.lt)
      have BRr := BR0'.frm hF (by omega)
      have bW0 := bY0.trans (hF.below (by omega) (fun k hk e => by omega))
      obtain ⟨m0, mf, ml⟩ := BM2.c1
      obtain ⟨v0, vf, vl⟩ := BW2.c1
      obtain ⟨n0, nf, nl⟩ := hB.c1
      obtain ⟨r0, rf, rl⟩ := BRr.c1
      have hE1 : ((L.length : Int) != (L.length : Int)) = false := bne_self_eq_false _
      go_wp2
      have BR1 : Blk (W.alloc (.cells #[.int .i64 1] 3)) W.heap.size 3 #[.int .i64 1] := Blk.new _ _ _
      have bX1 := bW0.alloc bW0.size (.cells #[.int .i64 1] 3)
      have hm1 := mY0.step BN0 hF bY0.size hK (.cells #[.int .i64 1] 3)
      have hrw1 : wc.heap.size ≤ W.heap.size := bW0.size
      generalize W.alloc (.cells #[.int .i64 1] 3) = X1 at *
      obtain ⟨V1, rfl⟩ : ∃ V, V = W := ⟨_, rfl⟩
      clear hblk BW2 BM2 BRr bW0 m0 mf ml v0 vf vl n0 nf nl r0 rf rl hE1 hB hF hsz hK BN0 BR0' bY0 mY0
      rw [rounds_succ]
      obtain ⟨t0, tf, tl⟩ := BR1.c1
      go_wp2
      have BN1 : Blk (X1.alloc (.cells #[.int .i64 0] 3)) X1.heap.size 3 #[.int .i64 0] := Blk.new _ _ _
      have BR1' := BR1.alloc (.cells #[.int .i64 0] 3)
      have bY1 := bX1.alloc bX1.size (.cells #[.int .i64 0] 3)
      have mY1 := hm1.keep ((Frm.refl (fun _ => False) X1).alloc (.cells #[.int .i64 0] 3)) (fun _ _ => id)
      have hnb1 : X1.heap.size < (X1.alloc (.cells #[.int .i64 0] 3)).heap.size := by simp
      have hrb1 : V1.heap.size < X1.heap.size := BR1.lt
      have hXs1 := bX1.size
      clear t0 tf tl bX1 hm1 BR1
      generalize X1.alloc (.cells #[.int .i64 0] 3) = Y1 at *
      have bY3 := bw.trans (bY1.mono hbw)
      refine wpIn_wide.1 (wpIn_rangeFunc_break (n := 5) (F := Fence.wide) rfl (by omega) (gf := 63) (lb := #[.pointer (some ⟨w2.heap.size, 0, none⟩), .pointer (some ⟨w2.heap.size + 1, 0, none⟩)]) rfl trivial (enters_of Try.func63 (by kernel_rfl) rfl)
        (encs := fun x : Nat × (Nat → Prop) => ((tellL cl lv).getD x.1 default).encs) (fun _ => rfl) (Code.exit 2)
        (fun x W => NAt Y1 X1.heap.size x.1 x.2 W ∧ x.1 < (tellL cl lv).length) (NStep Y1 X1.heap.size) (fun x _ W' => ((x.1 + 1 : Nat) : Int) = most ∧ ∃ S', NAt Y1 X1.heap.size (x.1 + 1) S' W') (fun W => ∃ S, NAt Y1 X1.heap.size (tellL cl lv).length S W) (fun W => ∃ (k : Nat) (S : Nat → Prop), NAt Y1 X1.heap.size k S W ∧ (k : Int) = most)
        ?roundx2 ?st1x2 ?st2x2 ?callx2 ?finx2 ?finbx2 ?donex2 ?stopx2)
      case st1x2 =>
        rintro x W Wa Wb ⟨h1, S', h2, h3, h4⟩ hF
        exact ⟨h1, S', h2.frm hnb1 hF, h3.trans hF (fun j hj e => by rw [e]; exact h1), h4⟩
      case st2x2 => rintro x W Wa Wb ⟨h1, S', h2⟩ hF; exact ⟨h1, S', h2.frm hnb1 hF⟩
      case finx2 =>
        rintro Wa Wb ⟨S, h⟩ hF
        exact ⟨S, h.frm hnb1 hF⟩
      case finbx2 => rintro Wa Wb ⟨k, S, h1, h2⟩ hF; exact ⟨k, S, h1.frm hnb1 hF, h2⟩
      case callx2 =>
        intro W1 hF1 hW1 Rdy Dn hsz hst hR1 hY
        exact runs_call rfl HN2.out (R1.below bY3 R1.lt) (R2.below bY3 R2.lt) (hin.below bY3 (.inr (Nat.le_refl _))) (h2.below (b03.trans (bY3.mono b03.size)) (.inr (Nat.le_refl _))) (by omega) hnb1 BN1 hF1 hW1 hst hR1 (Rb := (fun x _ W' => ((x.1 + 1 : Nat) : Int) = most ∧ ∃ S', NAt Y1 X1.heap.size (x.1 + 1) S' W')) (Finb := (fun W => ∃ (k : Nat) (S : Nat → Prop), NAt Y1 X1.heap.size k S W ∧ (k : Int) = most)) (fun x W W' h => ⟨x.1 + 1, h.2.choose, h.2.choose_spec, h.1⟩) hY
      case roundx2 =>
        rintro ⟨j, S⟩ W K hW ⟨hA, hjl⟩ hK
        obtain ⟨hS, hB, hF, hsz⟩ := hA
        simp only at hS hB hjl ⊢
        obtain ⟨g', lg, a, b, hwl, hg0, hgn, hga, hgb, hbn, htl⟩ := tell_at hjl
        have hte : (tellL cl lv).getD j default = ⟨a, b + 1, lg⟩ := by rw [List.getD_eq_getElem?_getD, List.getElem?_eq_getElem hjl]; exact htl
        rw [← hL, List.getElem?_map] at hwl
        obtain ⟨⟨e1, e2, e3⟩, hel, hee⟩ := Option.map_eq_some_iff.1 hwl
        obtain ⟨hq1, hq2⟩ := Prod.mk.inj hee
        simp only at hq1 hq2
        subst hq1 hq2
        obtain ⟨og, gA, gc, rfl, hog, x0, x1, rg⟩ := GW.get hel
        simp only at rg
        obtain ⟨ga, go, rfl, _, hgas, hgc⟩ := rg.cells hg0
        have y0 := hgc 0 hg0
        have y1 := hgc (e1.length - 1) (by omega)
        rw [hga] at y0
        rw [hgb] at y1
        rw [Nat.add_zero] at y0
        have hLq : j < L.length := (List.getElem?_eq_some_iff.1 hel).1
        simp only at x0 x1
        rw [hte]
        simp only [Rn.encs, List.zip_toArray, List.zip_cons_cons, List.zip_nil_right, List.foldl_toArray, List.foldl_cons, List.foldl_nil, List.setIfInBounds_toArray, List.set_cons_zero, List.set_cons_succ]
        gi_wp2
        have FA := (Frm.refl (fun _ => False) W).alloc (.cells #[.int .i64 a, .int .i64 ((b : Int) + 1), .int .i8 e2] 50)
        refine hK _ _ (Two.of_frm FA hW id id) ?_
        intro W2 hF2
        have F2 := (FA.mono (F' := fun i => i = Y1.heap.size + 1) (fun _ _ e => e.elim)).trans hF2 (fun _ _ e => e)
        have FY : Frm (fun k => k = X1.heap.size ∨ k = Y1.heap.size + 1) Y1 W2 := (hF.mono (fun _ _ e => .inl e)).trans F2 (fun _ _ e => .inr e)
        have B2 := hB.frm F2 (by omega)
        have S2 := (Blk.new W 50 #[.int .i64 a, .int .i64 ((b : Int) + 1), .int .i8 e2]).frm hF2 (by omega)
        have hblk : ∀ k, k < wc.heap.size → W2.heap[k]? = wc.heap[k]? := fun k hk => (FY.block k (by have := bY1.size; omega) (by omega)).trans (bY1.block k hk)
        replace x0 := (World.cell?_of_block (a := ⟨og, j * 2, none⟩) (hblk og hog)).trans x0
        replace x1 := (World.cell?_of_block (a := ⟨og, j * 2 + 1, none⟩) (hblk og hog)).trans x1
        replace y0 := (World.cell?_of_block (a := ⟨ga, go, none⟩) (hblk ga hgas)).trans y0
        replace y1 := (World.cell?_of_block (a := ⟨ga, go + (e1.length - 1), none⟩) (hblk ga hgas)).trans y1
        have BW2 : Blk W2 w3.heap.size 47 #[.slice (some ⟨og, 0, none⟩) L.length wc'] := (hblk _ BW.lt).trans BW
        have BM2 : Blk W2 w.heap.size 3 #[.int .i64 most] := (hblk _ (Nat.lt_of_lt_of_le B03.lt hbw)).trans (B03.below bw B03.lt)
        have BRr := BR1'.frm FY (by omega)
        obtain ⟨m0, mf, ml⟩ := BM2.c1
        obtain ⟨v0, vf, vl⟩ := BW2.c1
        obtain ⟨n0, nf, nl⟩ := B2.c1
        obtain ⟨r0, rf, rl⟩ := BRr.c1
        obtain ⟨z0, z1, z2, zf, zl⟩ := S2.c3
        have hw1 : IntKind.i64.wrap ((e1.length : Int) - 1) = ((e1.length - 1 : Nat) : Int) := by rw [IntWalk.i64_in _ (by omega)]; omega
        have hw2 : IntKind.i64.wrap ((b : Int) + 1) = (b : Int) + 1 := IntWalk.i64_in _ (by omega)
        have hw3 : IntKind.i64.wrap ((j : Int) + 1) = (j : Int) + 1 := IntWalk.i64_in _ (by omega)
        have hE1 : ((a : Int) != (a : Int)) = false := bne_self_eq_false _
        have hE2 : ((b : Int) + 1 != (b : Int) + 1) = false := bne_self_eq_false _
        have hE3 : (e2 != e2) = false := bne_self_eq_false _
        have HS := Lib.hid hS
        clear hK hS hwl hel hee htl hte hga hgb hgc rg hblk
        gi_wp2
        refine wpIn_region_reads (fun _ => trivial) (by kernel_rfl) (by kernel_rfl) (by kernel_rfl) ?_
        repeat (first
          | (refine still_plain rfl rfl ?_; intro K hK; go_wp2)
          | (refine still_guard rfl ?_; intro K hK; rw [if_pos (by rfl)]; go_wp2))
        refine wpStill_nil ?_
        have F3 : Frm (fun k => k = X1.heap.size) W2 ((W2.setCell ⟨X1.heap.size, 0, none⟩ (.int .i64 ((j : Int) + 1))).drew) := ((Frm.refl (fun k => k = X1.heap.size) W2).set (b := X1.heap.size) (j := 0) rfl (.int .i64 ((j : Int) + 1))).drew
        have hN : NAt Y1 X1.heap.size (j + 1) (fun k => k = X1.heap.size ∨ k = Y1.heap.size + 1) ((W2.setCell ⟨X1.heap.size, 0, none⟩ (.int .i64 ((j : Int) + 1))).drew) :=
          ⟨fun _ => Iff.rfl, by have := (B2.set_ 0 (.int .i64 ((j : Int) + 1))).drew; simpa using this, hF.trans ((F2.mono (F' := fun k => k = Y1.heap.size + 1 ∨ k = X1.heap.size) (fun _ _ e => .inl e)).trans F3 (fun _ _ e => .inr e)) (fun k hk e => by omega), by have := F3.size; have := F2.size; omega⟩
        have hT : Two Y1.heap.size W2 ((W2.setCell ⟨X1.heap.size, 0, none⟩ (.int .i64 ((j : Int) + 1))).drew) := Two.of_frm F3 (by have := F2.size; omega) (by omega) (by omega)
        by_cases hmost : (j : Int) + 1 = most
        · have hE4 : ((j : Int) + 1 == most) = true := by simp [hmost]
          have HM := Lib.hid hmost
          clear hmost
          gi_wp2
          exact ⟨hT, rfl, by have := HM.out; show ((j + 1 : Nat) : Int) = most; omega, _, hN⟩
        · have hE4 : ((j : Int) + 1 == most) = false := by simp [hmost]
          clear hmost
          gi_wp2
          exact ⟨hT, (HS.out _).2 (.inr rfl), _, hN, (F2.mono (fun k _ e => (HS.out k).2 (.inr e))).trans F3 (fun k _ e => (HS.out k).2 (.inl e)), fun k e => .inl ((HS.out k).2 e)⟩
      case stopx2 =>
        rintro W ⟨kk, S, ⟨-, hB, hF, hsz⟩, hkm⟩ hK
        rw [hkm] at hB
        refine wpIn_wide.2 ?_
        have hblk : ∀ k, k < wc.heap.size → W.heap[k]? = wc.heap[k]? := fun k hk => (hF.block k (by have := bY1.size; omega) (by omega)).trans (bY1.block k hk)
        have BW2 : Blk W w3.heap.size 47 #[.slice wA L.length wc'] := (hblk _ BW.lt).trans BW
        have BM2 : Blk W w.heap.size 3 #[.int .i64 most] := (hblk _ (Nat.lt_of_lt_of_le B03.lt hbw)).trans (B03.below bw B03.lt)
        have BRr := BR1'.frm hF (by omega)
        have bW1 := bY1.trans (hF.below (by omega) (fun k hk e => by omega))
        obtain ⟨m0, mf, ml⟩ := BM2.c1
        obtain ⟨v0, vf, vl⟩ := BW2.c1
        obtain ⟨n0, nf, nl⟩ := hB.c1
        obtain ⟨r0, rf, rl⟩ := BRr.c1
        have hE1 : ((L.length : Int) != (L.length : Int)) = false := bne_self_eq_false _
        have hE5 : (most != most) = false := bne_self_eq_false _
        by_cases hlm : most = (L.length : Int)
        · have hE6 : (most != (L.length : Int)) = false := by simp [hlm]
          clear hlm
          go_wp2
          have BR2 : Blk (W.alloc (.cells #[.int .i64 2] 3)) W.heap.size 3 #[.int .i64 2] := Blk.new _ _ _
          have bX2 := bW1.alloc bW1.size (.cells #[.int .i64 2] 3)
          have hm2 := mY1.step BN1 hF bY1.size hK (.cells #[.int .i64 2] 3)
          have hrw2 : wc.heap.size ≤ W.heap.size := bW1.size
          generalize W.alloc (.cells #[.int .i64 2] 3) = X2 at *
          obtain ⟨V2, rfl⟩ : ∃ V, V = W := ⟨_, rfl⟩
          clear hblk BW2 BM2 BRr bW1 m0 mf ml v0 vf vl n0 nf nl r0 rf rl hE1 hB hF hsz hK BN1 BR1' bY1 mY1
          rw [rounds_succ]
          obtain ⟨t0, tf, tl⟩ := BR2.c1
          go_wp2
          have BN2 : Blk (X2.alloc (.cells #[.int .i64 0] 3)) X2.heap.size 3 #[.int .i64 0] := Blk.new _ _ _
          have BR2' := BR2.alloc (.cells #[.int .i64 0] 3)
          have bY2 := bX2.alloc bX2.size (.cells #[.int .i64 0] 3)
          have mY2 := hm2.keep ((Frm.refl (fun _ => False) X2).alloc (.cells #[.int .i64 0] 3)) (fun _ _ => id)
          have hnb2 : X2.heap.size < (X2.alloc (.cells #[.int .i64 0] 3)).heap.size := by simp
          have hrb2 : V2.heap.size < X2.heap.size := BR2.lt
          have hXs2 := bX2.size
          clear t0 tf tl bX2 hm2 BR2
          generalize X2.alloc (.cells #[.int .i64 0] 3) = Y2 at *
          have bY3 := bw.trans (bY2.mono hbw)
          refine wpIn_wide.1 (wpIn_rangeFunc_break (n := 5) (F := Fence.wide) rfl (by omega) (gf := 63) (lb := #[.pointer (some ⟨w2.heap.size, 0, none⟩), .pointer (some ⟨w2.heap.size + 1, 0, none⟩)]) rfl trivial (enters_of Try.func63 (by kernel_rfl) rfl)
            (encs := fun x : Nat × (Nat → Prop) => ((tellL cl lv).getD x.1 default).encs) (fun _ => rfl) (Code.exit 2)
            (fun x W => NAt Y2 X2.heap.size x.1 x.2 W ∧ x.1 < (tellL cl lv).length) (NStep Y2 X2.heap.size) (fun _ _ _ => False) (fun W => ∃ S, NAt Y2 X2.heap.size (tellL cl lv).length S W) (fun _ => False)
            ?roundx3 ?st1x3 ?st2x3 ?callx3 ?finx3 ?finbx3 ?donex3 ?stopx3)
          case st1x3 =>
            rintro x W Wa Wb ⟨h1, S', h2, h3, h4⟩ hF
            exact ⟨h1, S', h2.frm hnb2 hF, h3.trans hF (fun j hj e => by rw [e]; exact h1), h4⟩
          case st2x3 => exact fun _ _ _ _ h _ => h
          case finx3 =>
            rintro Wa Wb ⟨S, h⟩ hF
            exact ⟨S, h.frm hnb2 hF⟩
          case finbx3 => exact fun _ _ h _ => h
          case callx3 =>
            intro W1 hF1 hW1 Rdy Dn hsz hst hR1 hY
            exact runs_call rfl HN2.out (R1.below bY3 R1.lt) (R2.below bY3 R2.lt) (hin.below bY3 (.inr (Nat.le_refl _))) (h2.below (b03.trans (bY3.mono b03.size)) (.inr (Nat.le_refl _))) (by omega) hnb2 BN2 hF1 hW1 hst hR1 (Rb := (fun _ _ _ => False)) (Finb := (fun _ => False)) (fun _ _ _ h => h) hY
          case roundx3 =>
            rintro ⟨j, S⟩ W K hW ⟨hA, hjl⟩ hK
            obtain ⟨hS, hB, hF, hsz⟩ := hA
            simp only at hS hB hjl ⊢
            obtain ⟨g', lg, a, b, hwl, hg0, hgn, hga, hgb, hbn, htl⟩ := tell_at hjl
            have hte : (tellL cl lv).getD j default = ⟨a, b + 1, lg⟩ := by rw [List.getD_eq_getElem?_getD, List.getElem?_eq_getElem hjl]; exact htl
            rw [← hL, List.getElem?_map] at hwl
            obtain ⟨⟨e1, e2, e3⟩, hel, hee⟩ := Option.map_eq_some_iff.1 hwl
            obtain ⟨hq1, hq2⟩ := Prod.mk.inj hee
            simp only at hq1 hq2
            subst hq1 hq2
            obtain ⟨og, gA, gc, rfl, hog, x0, x1, rg⟩ := GW.get hel
            simp only at rg
            obtain ⟨ga, go, rfl, _, hgas, hgc⟩ := rg.cells hg0
            have y0 := hgc 0 hg0
            have y1 := hgc (e1.length - 1) (by omega)
            rw [hga] at y0
            rw [hgb] at y1
            rw [Nat.add_zero] at y0
            have hLq : j < L.length := (List.getElem?_eq_some_iff.1 hel).1
            simp only at x0 x1
            rw [hte]
            simp only [Rn.encs, List.zip_toArray, List.zip_cons_cons, List.zip_nil_right, List.foldl_toArray, List.foldl_cons, List.foldl_nil, List.setIfInBounds_toArray, List.set_cons_zero, List.set_cons_succ]
            gi_wp2
            have FA := (Frm.refl (fun _ => False) W).alloc (.cells #[.int .i64 a, .int .i64 ((b : Int) + 1), .int .i8 e2] 50)
            refine hK _ _ (Two.of_frm FA hW id id) ?_
            intro W2 hF2
            have F2 := (FA.mono (F' := fun i => i = Y2.heap.size + 1) (fun _ _ e => e.elim)).trans hF2 (fun _ _ e => e)
            have FY : Frm (fun k => k = X2.heap.size ∨ k = Y2.heap.size + 1) Y2 W2 := (hF.mono (fun _ _ e => .inl e)).trans F2 (fun _ _ e => .inr e)
            have B2 := hB.frm F2 (by omega)
            have S2 := (Blk.new W 50 #[.int .i64 a, .int .i64 ((b : Int) + 1), .int .i8 e2]).frm hF2 (by omega)
            have hblk : ∀ k, k < wc.heap.size → W2.heap[k]? = wc.heap[k]? := fun k hk => (FY.block k (by have := bY2.size; omega) (by omega)).trans (bY2.block k hk)
            replace x0 := (World.cell?_of_block (a := ⟨og, j * 2, none⟩) (hblk og hog)).trans x0
            replace x1 := (World.cell?_of_block (a := ⟨og, j * 2 + 1, none⟩) (hblk og hog)).trans x1
            replace y0 := (World.cell?_of_block (a := ⟨ga, go, none⟩) (hblk ga hgas)).trans y0
            replace y1 := (World.cell?_of_block (a := ⟨ga, go + (e1.length - 1), none⟩) (hblk ga hgas)).trans y1
            have BW2 : Blk W2 w3.heap.size 47 #[.slice (some ⟨og, 0, none⟩) L.length wc'] := (hblk _ BW.lt).trans BW
            have BM2 : Blk W2 w.heap.size 3 #[.int .i64 most] := (hblk _ (Nat.lt_of_lt_of_le B03.lt hbw)).trans (B03.below bw B03.lt)
            have BRr := BR2'.frm FY (by omega)
            obtain ⟨m0, mf, ml⟩ := BM2.c1
            obtain ⟨v0, vf, vl⟩ := BW2.c1
            obtain ⟨n0, nf, nl⟩ := B2.c1
            obtain ⟨r0, rf, rl⟩ := BRr.c1
            obtain ⟨z0, z1, z2, zf, zl⟩ := S2.c3
            have hw1 : IntKind.i64.wrap ((e1.length : Int) - 1) = ((e1.length - 1 : Nat) : Int) := by rw [IntWalk.i64_in _ (by omega)]; omega
            have hw2 : IntKind.i64.wrap ((b : Int) + 1) = (b : Int) + 1 := IntWalk.i64_in _ (by omega)
            have hw3 : IntKind.i64.wrap ((j : Int) + 1) = (j : Int) + 1 := IntWalk.i64_in _ (by omega)
            have hE1 : ((a : Int) != (a : Int)) = false := bne_self_eq_false _
            have hE2 : ((b : Int) + 1 != (b : Int) + 1) = false := bne_self_eq_false _
            have hE3 : (e2 != e2) = false := bne_self_eq_false _
            have HS := Lib.hid hS
            clear hK hS hwl hel hee htl hte hga hgb hgc rg hblk
            gi_wp2
            refine wpIn_region_reads (fun _ => trivial) (by kernel_rfl) (by kernel_rfl) (by kernel_rfl) ?_
            repeat (first
              | (refine still_plain rfl rfl ?_; intro K hK; go_wp2)
              | (refine still_guard rfl ?_; intro K hK; rw [if_pos (by rfl)]; go_wp2))
            refine wpStill_nil ?_
            gi_wp2
            have F3 : Frm (fun k => k = X2.heap.size) W2 ((W2.setCell ⟨X2.heap.size, 0, none⟩ (.int .i64 ((j : Int) + 1))).drew) := ((Frm.refl (fun k => k = X2.heap.size) W2).set (b := X2.heap.size) (j := 0) rfl (.int .i64 ((j : Int) + 1))).drew
            have hN : NAt Y2 X2.heap.size (j + 1) (fun k => k = X2.heap.size ∨ k = Y2.heap.size + 1) ((W2.setCell ⟨X2.heap.size, 0, none⟩ (.int .i64 ((j : Int) + 1))).drew) :=
              ⟨fun _ => Iff.rfl, by have := (B2.set_ 0 (.int .i64 ((j : Int) + 1))).drew; simpa using this, hF.trans ((F2.mono (F' := fun k => k = Y2.heap.size + 1 ∨ k = X2.heap.size) (fun _ _ e => .inl e)).trans F3 (fun _ _ e => .inr e)) (fun k hk e => by omega), by have := F3.size; have := F2.size; omega⟩
            have hT : Two Y2.heap.size W2 ((W2.setCell ⟨X2.heap.size, 0, none⟩ (.int .i64 ((j : Int) + 1))).drew) := Two.of_frm F3 (by have := F2.size; omega) (by omega) (by omega)
            exact ⟨hT, (HS.out _).2 (.inr rfl), _, hN, (F2.mono (fun k _ e => (HS.out k).2 (.inr e))).trans F3 (fun k _ e => (HS.out k).2 (.inl e)), fun k e => .inl ((HS.out k).2 e)⟩
          case stopx3 =>
            exact fun _ h _ => h.elim
          case donex3 =>
            rintro W ⟨S, -, hB, hF, hsz⟩ hK
            rw [← HLT.out] at hB
            have hblk : ∀ k, k < wc.heap.size → W.heap[k]? = wc.heap[k]? := fun k hk => (hF.block k (by have := bY2.size; omega) (by omega)).trans (bY2.block k hk)
            have BW2 : Blk W w3.heap.size 47 #[.slice wA L.length wc'] := (hblk _ BW.lt).trans BW
            have BM2 : Blk W w.heap.size 3 #[.int .i64 most] := (hblk _ (Nat.lt_of_lt_of_le B03.lt hbw)).trans (B03.below bw B03.lt)
            have BRr := BR2'.frm hF (by omega)
            have bW2 := bY2.trans (hF.below (by omega) (fun k hk e => by omega))
            obtain ⟨m0, mf, ml⟩ := BM2.c1
            obtain ⟨v0, vf, vl⟩ := BW2.c1
            obtain ⟨n0, nf, nl⟩ := hB.c1
            obtain ⟨r0, rf, rl⟩ := BRr.c1
            have hE1 : ((L.length : Int) != (L.length : Int)) = false := bne_self_eq_false _
            go_wp2
            have BR3 : Blk (W.alloc (.cells #[.int .i64 3] 3)) W.heap.size 3 #[.int .i64 3] := Blk.new _ _ _
            have bX3 := bW2.alloc bW2.size (.cells #[.int .i64 3] 3)
            have hm3 := mY2.step BN2 hF bY2.size hK (.cells #[.int .i64 3] 3)
            have hrw3 : wc.heap.size ≤ W.heap.size := bW2.size
            generalize W.alloc (.cells #[.int .i64 3] 3) = X3 at *
            obtain ⟨V3, rfl⟩ : ∃ V, V = W := ⟨_, rfl⟩
            clear hblk BW2 BM2 BRr bW2 m0 mf ml v0 vf vl n0 nf nl r0 rf rl hE1 hB hF hsz hK BN2 BR2' bY2 mY2
            rw [rounds_succ]
            obtain ⟨t0, tf, tl⟩ := BR3.c1
            have b3X := bw.trans (bX3.mono hbw)
            have bwX := b03.trans (b3X.mono b03.size)
            have hk := kept17_ok (c := c) (I3.below b3X (Nat.le_refl _)) (h.below bwX (.inr (Nat.le_refl _))) (by omega)
            have BT := B13.below b3X B13.lt
            obtain ⟨u0, uf, ul⟩ := BT.c1
            go_wp2_with (first
              | (go_at_call 32; refine hk.mono ?_; rintro r8 w8 ⟨rfl, b8⟩)
              | (go_at_call 37; refine (awake17_ok _).mono ?_; rintro r9 w9 ⟨rfl, b9⟩; obtain ⟨u0, uf, ul⟩ := ((BT.below b8 BT.lt).below b9 (BT.below b8 BT.lt).lt).c1))
            have b89 := b8.trans (b9.mono b8.size)
            have bw9 := bwX.trans (b89.mono bwX.size)
            have F9 := (Frm.refl (fun k => k = w.heap.size + 1) w9).set (b := w.heap.size + 1) (j := 0) rfl (.bool true)
            have hm9 := (hm3.keep (F := fun _ => False) (Frm.of_below b89) (fun _ _ => id)).keep F9 (fun q hq e => by have := (hm3.each q hq).1; have := B13.lt; omega)
            have BT9 := ((BT.below b8 BT.lt).below b9 (BT.below b8 BT.lt).lt).set_ 0 (.bool true)
            have bwS := bw9.setCell (p := ⟨w.heap.size + 1, 0, none⟩) (by simp) (.bool true)
            refine leaves_marks (D := wc.heap.size) [Y2.heap.size, Y1.heap.size, Y0.heap.size] _ hm9 (fun W' hF => ⟨_, results_cellb rfl _ _ (w.heap.size + 1) (.bool true) rfl ?_, rfl, ?_⟩)
            · have hn : ¬ (w.heap.size + 1 ∈ [Y2.heap.size, Y1.heap.size, Y0.heap.size]) := fun hq => by have := (hm3.each _ hq).1; have := B13.lt; omega
              have := (BT9.frm hF hn).cell 0
              simpa using this
            · exact bwS.trans (hF.below bwS.size (fun k hk hq => by have := (hm3.each _ hq).1; have := b03.size; omega))
        · have hE6 : (most != (L.length : Int)) = true := bne_iff_ne.2 hlm
          clear hlm
          go_wp2
          have BR2 : Blk (W.alloc (.cells #[.int .i64 2] 3)) W.heap.size 3 #[.int .i64 2] := Blk.new _ _ _
          have bX2 := bW1.alloc bW1.size (.cells #[.int .i64 2] 3)
          have hm2 := mY1.step BN1 hF bY1.size hK (.cells #[.int .i64 2] 3)
          have hrw2 : wc.heap.size ≤ W.heap.size := bW1.size
          generalize W.alloc (.cells #[.int .i64 2] 3) = X2 at *
          obtain ⟨V2, rfl⟩ : ∃ V, V = W := ⟨_, rfl⟩
          clear hblk BW2 BM2 BRr bW1 m0 mf ml v0 vf vl n0 nf nl r0 rf rl hE1 hB hF hsz hK BN1 BR1' bY1 mY1
          rw [rounds_succ]
          obtain ⟨t0, tf, tl⟩ := BR2.c1
          go_wp2
          have BN2 : Blk (X2.alloc (.cells #[.int .i64 0] 3)) X2.heap.size 3 #[.int .i64 0] := Blk.new _ _ _
          have BR2' := BR2.alloc (.cells #[.int .i64 0] 3)
          have bY2 := bX2.alloc bX2.size (.cells #[.int .i64 0] 3)
          have mY2 := hm2.keep ((Frm.refl (fun _ => False) X2).alloc (.cells #[.int .i64 0] 3)) (fun _ _ => id)
          have hnb2 : X2.heap.size < (X2.alloc (.cells #[.int .i64 0] 3)).heap.size := by simp
          have hrb2 : V2.heap.size < X2.heap.size := BR2.lt
          have hXs2 := bX2.size
          clear t0 tf tl bX2 hm2 BR2
          generalize X2.alloc (.cells #[.int .i64 0] 3) = Y2 at *
          have bY3 := bw.trans (bY2.mono hbw)
          refine wpIn_wide.1 (wpIn_rangeFunc_break (n := 5) (F := Fence.wide) rfl (by omega) (gf := 63) (lb := #[.pointer (some ⟨w2.heap.size, 0, none⟩), .pointer (some ⟨w2.heap.size + 1, 0, none⟩)]) rfl trivial (enters_of Try.func63 (by kernel_rfl) rfl)
            (encs := fun x : Nat × (Nat → Prop) => ((tellL cl lv).getD x.1 default).encs) (fun _ => rfl) (Code.exit 2)
            (fun x W => NAt Y2 X2.heap.size x.1 x.2 W ∧ x.1 < (tellL cl lv).length) (NStep Y2 X2.heap.size) (fun _ _ _ => False) (fun W => ∃ S, NAt Y2 X2.heap.size (tellL cl lv).length S W) (fun _ => False)
            ?roundx4 ?st1x4 ?st2x4 ?callx4 ?finx4 ?finbx4 ?donex4 ?stopx4)
          case st1x4 =>
            rintro x W Wa Wb ⟨h1, S', h2, h3, h4⟩ hF
            exact ⟨h1, S', h2.frm hnb2 hF, h3.trans hF (fun j hj e => by rw [e]; exact h1), h4⟩
          case st2x4 => exact fun _ _ _ _ h _ => h
          case finx4 =>
            rintro Wa Wb ⟨S, h⟩ hF
            exact ⟨S, h.frm hnb2 hF⟩
          case finbx4 => exact fun _ _ h _ => h
          case callx4 =>
            intro W1 hF1 hW1 Rdy Dn hsz hst hR1 hY
            exact runs_call rfl HN2.out (R1.below bY3 R1.lt) (R2.below bY3 R2.lt) (hin.below bY3 (.inr (Nat.le_refl _))) (h2.below (b03.trans (bY3.mono b03.size)) (.inr (Nat.le_refl _))) (by omega) hnb2 BN2 hF1 hW1 hst hR1 (Rb := (fun _ _ _ => False)) (Finb := (fun _ => False)) (fun _ _ _ h => h) hY
          case roundx4 =>
            rintro ⟨j, S⟩ W K hW ⟨hA, hjl⟩ hK
            obtain ⟨hS, hB, hF, hsz⟩ := hA
            simp only at hS hB hjl ⊢
            obtain ⟨g', lg, a, b, hwl, hg0, hgn, hga, hgb, hbn, htl⟩ := tell_at hjl
            have hte : (tellL cl lv).getD j default = ⟨a, b + 1, lg⟩ := by rw [List.getD_eq_getElem?_getD, List.getElem?_eq_getElem hjl]; exact htl
            rw [← hL, List.getElem?_map] at hwl
            obtain ⟨⟨e1, e2, e3⟩, hel, hee⟩ := Option.map_eq_some_iff.1 hwl
            obtain ⟨hq1, hq2⟩ := Prod.mk.inj hee
            simp only at hq1 hq2
            subst hq1 hq2
            obtain ⟨og, gA, gc, rfl, hog, x0, x1, rg⟩ := GW.get hel
            simp only at rg
            obtain ⟨ga, go, rfl, _, hgas, hgc⟩ := rg.cells hg0
            have y0 := hgc 0 hg0
            have y1 := hgc (e1.length - 1) (by omega)
            rw [hga] at y0
            rw [hgb] at y1
            rw [Nat.add_zero] at y0
            have hLq : j < L.length := (List.getElem?_eq_some_iff.1 hel).1
            simp only at x0 x1
            rw [hte]
            simp only [Rn.encs, List.zip_toArray, List.zip_cons_cons, List.zip_nil_right, List.foldl_toArray, List.foldl_cons, List.foldl_nil, List.setIfInBounds_toArray, List.set_cons_zero, List.set_cons_succ]
            gi_wp2
            have FA := (Frm.refl (fun _ => False) W).alloc (.cells #[.int .i64 a, .int .i64 ((b : Int) + 1), .int .i8 e2] 50)
            refine hK _ _ (Two.of_frm FA hW id id) ?_
            intro W2 hF2
            have F2 := (FA.mono (F' := fun i => i = Y2.heap.size + 1) (fun _ _ e => e.elim)).trans hF2 (fun _ _ e => e)
            have FY : Frm (fun k => k = X2.heap.size ∨ k = Y2.heap.size + 1) Y2 W2 := (hF.mono (fun _ _ e => .inl e)).trans F2 (fun _ _ e => .inr e)
            have B2 := hB.frm F2 (by omega)
            have S2 := (Blk.new W 50 #[.int .i64 a, .int .i64 ((b : Int) + 1), .int .i8 e2]).frm hF2 (by omega)
            have hblk : ∀ k, k < wc.heap.size → W2.heap[k]? = wc.heap[k]? := fun k hk => (FY.block k (by have := bY2.size; omega) (by omega)).trans (bY2.block k hk)
            replace x0 := (World.cell?_of_block (a := ⟨og, j * 2, none⟩) (hblk og hog)).trans x0
            replace x1 := (World.cell?_of_block (a := ⟨og, j * 2 + 1, none⟩) (hblk og hog)).trans x1
            replace y0 := (World.cell?_of_block (a := ⟨ga, go, none⟩) (hblk ga hgas)).trans y0
            replace y1 := (World.cell?_of_block (a := ⟨ga, go + (e1.length - 1), none⟩) (hblk ga hgas)).trans y1
            have BW2 : Blk W2 w3.heap.size 47 #[.slice (some ⟨og, 0, none⟩) L.length wc'] := (hblk _ BW.lt).trans BW
            have BM2 : Blk W2 w.heap.size 3 #[.int .i64 most] := (hblk _ (Nat.lt_of_lt_of_le B03.lt hbw)).trans (B03.below bw B03.lt)
            have BRr := BR2'.frm FY (by omega)
            obtain ⟨m0, mf, ml⟩ := BM2.c1
            obtain ⟨v0, vf, vl⟩ := BW2.c1
            obtain ⟨n0, nf, nl⟩ := B2.c1
            obtain ⟨r0, rf, rl⟩ := BRr.c1
            obtain ⟨z0, z1, z2, zf, zl⟩ := S2.c3
            have hw1 : IntKind.i64.wrap ((e1.length : Int) - 1) = ((e1.length - 1 : Nat) : Int) := by rw [IntWalk.i64_in _ (by omega)]; omega
            have hw2 : IntKind.i64.wrap ((b : Int) + 1) = (b : Int) + 1 := IntWalk.i64_in _ (by omega)
            have hw3 : IntKind.i64.wrap ((j : Int) + 1) = (j : Int) + 1 := IntWalk.i64_in _ (by omega)
            have hE1 : ((a : Int) != (a : Int)) = false := bne_self_eq_false _
            have hE2 : ((b : Int) + 1 != (b : Int) + 1) = false := bne_self_eq_false _
            have hE3 : (e2 != e2) = false := bne_self_eq_false _
            have HS := Lib.hid hS
            clear hK hS hwl hel hee htl hte hga hgb hgc rg hblk
            gi_wp2
            refine wpIn_region_reads (fun _ => trivial) (by kernel_rfl) (by kernel_rfl) (by kernel_rfl) ?_
            repeat (first
              | (refine still_plain rfl rfl ?_; intro K hK; go_wp2)
              | (refine still_guard rfl ?_; intro K hK; rw [if_pos (by rfl)]; go_wp2))
            refine wpStill_nil ?_
            gi_wp2
            have F3 : Frm (fun k => k = X2.heap.size) W2 ((W2.setCell ⟨X2.heap.size, 0, none⟩ (.int .i64 ((j : Int) + 1))).drew) := ((Frm.refl (fun k => k = X2.heap.size) W2).set (b := X2.heap.size) (j := 0) rfl (.int .i64 ((j : Int) + 1))).drew
            have hN : NAt Y2 X2.heap.size (j + 1) (fun k => k = X2.heap.size ∨ k = Y2.heap.size + 1) ((W2.setCell ⟨X2.heap.size, 0, none⟩ (.int .i64 ((j : Int) + 1))).drew) :=
              ⟨fun _ => Iff.rfl, by have := (B2.set_ 0 (.int .i64 ((j : Int) + 1))).drew; simpa using this, hF.trans ((F2.mono (F' := fun k => k = Y2.heap.size + 1 ∨ k = X2.heap.size) (fun _ _ e => .inl e)).trans F3 (fun _ _ e => .inr e)) (fun k hk e => by omega), by have := F3.size; have := F2.size; omega⟩
            have hT : Two Y2.heap.size W2 ((W2.setCell ⟨X2.heap.size, 0, none⟩ (.int .i64 ((j : Int) + 1))).drew) := Two.of_frm F3 (by have := F2.size; omega) (by omega) (by omega)
            exact ⟨hT, (HS.out _).2 (.inr rfl), _, hN, (F2.mono (fun k _ e => (HS.out k).2 (.inr e))).trans F3 (fun k _ e => (HS.out k).2 (.inl e)), fun k e => .inl ((HS.out k).2 e)⟩
          case stopx4 =>
            exact fun _ h _ => h.elim
          case donex4 =>
            rintro W ⟨S, -, hB, hF, hsz⟩ hK
            rw [← HLT.out] at hB
            have hblk : ∀ k, k < wc.heap.size → W.heap[k]? = wc.heap[k]? := fun k hk => (hF.block k (by have := bY2.size; omega) (by omega)).trans (bY2.block k hk)
            have BW2 : Blk W w3.heap.size 47 #[.slice wA L.length wc'] := (hblk _ BW.lt).trans BW
            have BM2 : Blk W w.heap.size 3 #[.int .i64 most] := (hblk _ (Nat.lt_of_lt_of_le B03.lt hbw)).trans (B03.below bw B03.lt)
            have BRr := BR2'.frm hF (by omega)
            have bW2 := bY2.trans (hF.below (by omega) (fun k hk e => by omega))
            obtain ⟨m0, mf, ml⟩ := BM2.c1
            obtain ⟨v0, vf, vl⟩ := BW2.c1
            obtain ⟨n0, nf, nl⟩ := hB.c1
            obtain ⟨r0, rf, rl⟩ := BRr.c1
            have hE1 : ((L.length : Int) != (L.length : Int)) = false := bne_self_eq_false _
            go_wp2
            have BR3 : Blk (W.alloc (.cells #[.int .i64 3] 3)) W.heap.size 3 #[.int .i64 3] := Blk.new _ _ _
            have bX3 := bW2.alloc bW2.size (.cells #[.int .i64 3] 3)
            have hm3 := mY2.step BN2 hF bY2.size hK (.cells #[.int .i64 3] 3)
            have hrw3 : wc.heap.size ≤ W.heap.size := bW2.size
            generalize W.alloc (.cells #[.int .i64 3] 3) = X3 at *
            obtain ⟨V3, rfl⟩ : ∃ V, V = W := ⟨_, rfl⟩
            clear hblk BW2 BM2 BRr bW2 m0 mf ml v0 vf vl n0 nf nl r0 rf rl hE1 hB hF hsz hK BN2 BR2' bY2 mY2
            rw [rounds_succ]
            obtain ⟨t0, tf, tl⟩ := BR3.c1
            have b3X := bw.trans (bX3.mono hbw)
            have bwX := b03.trans (b3X.mono b03.size)
            have hk := kept17_ok (c := c) (I3.below b3X (Nat.le_refl _)) (h.below bwX (.inr (Nat.le_refl _))) (by omega)
            have BT := B13.below b3X B13.lt
            obtain ⟨u0, uf, ul⟩ := BT.c1
            go_wp2_with (first
              | (go_at_call 32; refine hk.mono ?_; rintro r8 w8 ⟨rfl, b8⟩)
              | (go_at_call 37; refine (awake17_ok _).mono ?_; rintro r9 w9 ⟨rfl, b9⟩; obtain ⟨u0, uf, ul⟩ := ((BT.below b8 BT.lt).below b9 (BT.below b8 BT.lt).lt).c1))
            have b89 := b8.trans (b9.mono b8.size)
            have bw9 := bwX.trans (b89.mono bwX.size)
            have F9 := (Frm.refl (fun k => k = w.heap.size + 1) w9).set (b := w.heap.size + 1) (j := 0) rfl (.bool true)
            have hm9 := (hm3.keep (F := fun _ => False) (Frm.of_below b89) (fun _ _ => id)).keep F9 (fun q hq e => by have := (hm3.each q hq).1; have := B13.lt; omega)
            have BT9 := ((BT.below b8 BT.lt).below b9 (BT.below b8 BT.lt).lt).set_ 0 (.bool true)
            have bwS := bw9.setCell (p := ⟨w.heap.size + 1, 0, none⟩) (by simp) (.bool true)
            refine leaves_marks (D := wc.heap.size) [Y2.heap.size, Y1.heap.size, Y0.heap.size] _ hm9 (fun W' hF => ⟨_, results_cellb rfl _ _ (w.heap.size + 1) (.bool true) rfl ?_, rfl, ?_⟩)
            · have hn : ¬ (w.heap.size + 1 ∈ [Y2.heap.size, Y1.heap.size, Y0.heap.size]) := fun hq => by have := (hm3.each _ hq).1; have := B13.lt; omega
              have := (BT9.frm hF hn).cell 0
              simpa using this
            · exact bwS.trans (hF.below bwS.size (fun k hk hq => by have := (hm3.each _ hq).1; have := b03.size; omega))
      case donex2 =>
        rintro W ⟨S, -, hB, hF, hsz⟩ hK
        rw [← HLT.out] at hB
        have hblk : ∀ k, k < wc.heap.size → W.heap[k]? = wc.heap[k]? := fun k hk => (hF.block k (by have := bY1.size; omega) (by omega)).trans (bY1.block k hk)
        have BW2 : Blk W w3.heap.size 47 #[.slice wA L.length wc'] := (hblk _ BW.lt).trans BW
        have BM2 : Blk W w.heap.size 3 #[.int .i64 most] := (hblk _ (Nat.lt_of_lt_of_le B03.lt hbw)).trans (B03.below bw B03.lt)
        have BRr := BR1'.frm hF (by omega)
        have bW1 := bY1.trans (hF.below (by omega) (fun k hk e => by omega))
        obtain ⟨m0, mf, ml⟩ := BM2.c1
        obtain ⟨v0, vf, vl⟩ := BW2.c1
        obtain ⟨n0, nf, nl⟩ := hB.c1
        obtain ⟨r0, rf, rl⟩ := BRr.c1
        have hE1 : ((L.length : Int) != (L.length : Int)) = false := bne_self_eq_false _
        go_wp2
        have BR2 : Blk (W.alloc (.cells #[.int .i64 2] 3)) W.heap.size 3 #[.int .i64 2] := Blk.new _ _ _
        have bX2 := bW1.alloc bW1.size (.cells #[.int .i64 2] 3)
        have hm2 := mY1.step BN1 hF bY1.size hK (.cells #[.int .i64 2] 3)
        have hrw2 : wc.heap.size ≤ W.heap.size := bW1.size
        generalize W.alloc (.cells #[.int .i64 2] 3) = X2 at *
        obtain ⟨V2, rfl⟩ : ∃ V, V = W := ⟨_, rfl⟩
        clear hblk BW2 BM2 BRr bW1 m0 mf ml v0 vf vl n0 nf nl r0 rf rl hE1 hB hF hsz hK BN1 BR1' bY1 mY1
        rw [rounds_succ]
        obtain ⟨t0, tf, tl⟩ := BR2.c1
        go_wp2
        have BN2 : Blk (X2.alloc (.cells #[.int .i64 0] 3)) X2.heap.size 3 #[.int .i64 0] := Blk.new _ _ _
        have BR2' := BR2.alloc (.cells #[.int .i64 0] 3)
        have bY2 := bX2.alloc bX2.size (.cells #[.int .i64 0] 3)
        have mY2 := hm2.keep ((Frm.refl (fun _ => False) X2).alloc (.cells #[.int .i64 0] 3)) (fun _ _ => id)
        have hnb2 : X2.heap.size < (X2.alloc (.cells #[.int .i64 0] 3)).heap.size := by simp
        have hrb2 : V2.heap.size < X2.heap.size := BR2.lt
        have hXs2 := bX2.size
        clear t0 tf tl bX2 hm2 BR2
        generalize X2.alloc (.cells #[.int .i64 0] 3) = Y2 at *
        have bY3 := bw.trans (bY2.mono hbw)
        refine wpIn_wide.1 (wpIn_rangeFunc_break (n := 5) (F := Fence.wide) rfl (by omega) (gf := 63) (lb := #[.pointer (some ⟨w2.heap.size, 0, none⟩), .pointer (some ⟨w2.heap.size + 1, 0, none⟩)]) rfl trivial (enters_of Try.func63 (by kernel_rfl) rfl)
          (encs := fun x : Nat × (Nat → Prop) => ((tellL cl lv).getD x.1 default).encs) (fun _ => rfl) (Code.exit 2)
          (fun x W => NAt Y2 X2.heap.size x.1 x.2 W ∧ x.1 < (tellL cl lv).length) (NStep Y2 X2.heap.size) (fun _ _ _ => False) (fun W => ∃ S, NAt Y2 X2.heap.size (tellL cl lv).length S W) (fun _ => False)
          ?roundx5 ?st1x5 ?st2x5 ?callx5 ?finx5 ?finbx5 ?donex5 ?stopx5)
        case st1x5 =>
          rintro x W Wa Wb ⟨h1, S', h2, h3, h4⟩ hF
          exact ⟨h1, S', h2.frm hnb2 hF, h3.trans hF (fun j hj e => by rw [e]; exact h1), h4⟩
        case st2x5 => exact fun _ _ _ _ h _ => h
        case finx5 =>
          rintro Wa Wb ⟨S, h⟩ hF
          exact ⟨S, h.frm hnb2 hF⟩
        case finbx5 => exact fun _ _ h _ => h
        case callx5 =>
          intro W1 hF1 hW1 Rdy Dn hsz hst hR1 hY
          exact runs_call rfl HN2.out (R1.below bY3 R1.lt) (R2.below bY3 R2.lt) (hin.below bY3 (.inr (Nat.le_refl _))) (h2.below (b03.trans (bY3.mono b03.size)) (.inr (Nat.le_refl _))) (by omega) hnb2 BN2 hF1 hW1 hst hR1 (Rb := (fun _ _ _ => False)) (Finb := (fun _ => False)) (fun _ _ _ h => h) hY
        case roundx5 =>
          rintro ⟨j, S⟩ W K hW ⟨hA, hjl⟩ hK
          obtain ⟨hS, hB, hF, hsz⟩ := hA
          simp only at hS hB hjl ⊢
          obtain ⟨g', lg, a, b, hwl, hg0, hgn, hga, hgb, hbn, htl⟩ := tell_at hjl
          have hte : (tellL cl lv).getD j default = ⟨a, b + 1, lg⟩ := by rw [List.getD_eq_getElem?_getD, List.getElem?_eq_getElem hjl]; exact htl
          rw [← hL, List.getElem?_map] at hwl
          obtain ⟨⟨e1, e2, e3⟩, hel, hee⟩ := Option.map_eq_some_iff.1 hwl
          obtain ⟨hq1, hq2⟩ := Prod.mk.inj hee
          simp only at hq1 hq2
          subst hq1 hq2
          obtain ⟨og, gA, gc, rfl, hog, x0, x1, rg⟩ := GW.get hel
          simp only at rg
          obtain ⟨ga, go, rfl, _, hgas, hgc⟩ := rg.cells hg0
          have y0 := hgc 0 hg0
          have y1 := hgc (e1.length - 1) (by omega)
          rw [hga] at y0
          rw [hgb] at y1
          rw [Nat.add_zero] at y0
          have hLq : j < L.length := (List.getElem?_eq_some_iff.1 hel).1
          simp only at x0 x1
          rw [hte]
          simp only [Rn.encs, List.zip_toArray, List.zip_cons_cons, List.zip_nil_right, List.foldl_toArray, List.foldl_cons, List.foldl_nil, List.setIfInBounds_toArray, List.set_cons_zero, List.set_cons_succ]
          gi_wp2
          have FA := (Frm.refl (fun _ => False) W).alloc (.cells #[.int .i64 a, .int .i64 ((b : Int) + 1), .int .i8 e2] 50)
          refine hK _ _ (Two.of_frm FA hW id id) ?_
          intro W2 hF2
          have F2 := (FA.mono (F' := fun i => i = Y2.heap.size + 1) (fun _ _ e => e.elim)).trans hF2 (fun _ _ e => e)
          have FY : Frm (fun k => k = X2.heap.size ∨ k = Y2.heap.size + 1) Y2 W2 := (hF.mono (fun _ _ e => .inl e)).trans F2 (fun _ _ e => .inr e)
          have B2 := hB.frm F2 (by omega)
          have S2 := (Blk.new W 50 #[.int .i64 a, .int .i64 ((b : Int) + 1), .int .i8 e2]).frm hF2 (by omega)
          have hblk : ∀ k, k < wc.heap.size → W2.heap[k]? = wc.heap[k]? := fun k hk => (FY.block k (by have := bY2.size; omega) (by omega)).trans (bY2.block k hk)
          replace x0 := (World.cell?_of_block (a := ⟨og, j * 2, none⟩) (hblk og hog)).trans x0
          replace x1 := (World.cell?_of_block (a := ⟨og, j * 2 + 1, none⟩) (hblk og hog)).trans x1
          replace y0 := (World.cell?_of_block (a := ⟨ga, go, none⟩) (hblk ga hgas)).trans y0
          replace y1 := (World.cell?_of_block (a := ⟨ga, go + (e1.length - 1), none⟩) (hblk ga hgas)).trans y1
          have BW2 : Blk W2 w3.heap.size 47 #[.slice (some ⟨og, 0, none⟩) L.length wc'] := (hblk _ BW.lt).trans BW
          have BM2 : Blk W2 w.heap.size 3 #[.int .i64 most] := (hblk _ (Nat.lt_of_lt_of_le B03.lt hbw)).trans (B03.below bw B03.lt)
          have BRr := BR2'.frm FY (by omega)
          obtain ⟨m0, mf, ml⟩ := BM2.c1
          obtain ⟨v0, vf, vl⟩ := BW2.c1
          obtain ⟨n0, nf, nl⟩ := B2.c1
          obtain ⟨r0, rf, rl⟩ := BRr.c1
          obtain ⟨z0, z1, z2, zf, zl⟩ := S2.c3
          have hw1 : IntKind.i64.wrap ((e1.length : Int) - 1) = ((e1.length - 1 : Nat) : Int) := by rw [IntWalk.i64_in _ (by omega)]; omega
          have hw2 : IntKind.i64.wrap ((b : Int) + 1) = (b : Int) + 1 := IntWalk.i64_in _ (by omega)
          have hw3 : IntKind.i64.wrap ((j : Int) + 1) = (j : Int) + 1 := IntWalk.i64_in _ (by omega)
          have hE1 : ((a : Int) != (a : Int)) = false := bne_self_eq_false _
          have hE2 : ((b : Int) + 1 != (b : Int) + 1) = false := bne_self_eq_false _
          have hE3 : (e2 != e2) = false := bne_self_eq_false _
          have HS := Lib.hid hS
          clear hK hS hwl hel hee htl hte hga hgb hgc rg hblk
          gi_wp2
          refine wpIn_region_reads (fun _ => trivial) (by kernel_rfl) (by kernel_rfl) (by kernel_rfl) ?_
          repeat (first
            | (refine still_plain rfl rfl ?_; intro K hK; go_wp2)
            | (refine still_guard rfl ?_; intro K hK; rw [if_pos (by rfl)]; go_wp2))
          refine wpStill_nil ?_
          gi_wp2
          have F3 : Frm (fun k => k = X2.heap.size) W2 ((W2.setCell ⟨X2.heap.size, 0, none⟩ (.int .i64 ((j : Int) + 1))).drew) := ((Frm.refl (fun k => k = X2.heap.size) W2).set (b := X2.heap.size) (j := 0) rfl (.int .i64 ((j : Int) + 1))).drew
          have hN : NAt Y2 X2.heap.size (j + 1) (fun k => k = X2.heap.size ∨ k = Y2.heap.size + 1) ((W2.setCell ⟨X2.heap.size, 0, none⟩ (.int .i64 ((j : Int) + 1))).drew) :=
            ⟨fun _ => Iff.rfl, by have := (B2.set_ 0 (.int .i64 ((j : Int) + 1))).drew; simpa using this, hF.trans ((F2.mono (F' := fun k => k = Y2.heap.size + 1 ∨ k = X2.heap.size) (fun _ _ e => .inl e)).trans F3 (fun _ _ e => .inr e)) (fun k hk e => by omega), by have := F3.size; have := F2.size; omega⟩
          have hT : Two Y2.heap.size W2 ((W2.setCell ⟨X2.heap.size, 0, none⟩ (.int .i64 ((j : Int) + 1))).drew) := Two.of_frm F3 (by have := F2.size; omega) (by omega) (by omega)
          exact ⟨hT, (HS.out _).2 (.inr rfl), _, hN, (F2.mono (fun k _ e => (HS.out k).2 (.inr e))).trans F3 (fun k _ e => (HS.out k).2 (.inl e)), fun k e => .inl ((HS.out k).2 e)⟩
        case stopx5 =>
          exact fun _ h _ => h.elim
        case donex5 =>
          rintro W ⟨S, -, hB, hF, hsz⟩ hK
          rw [← HLT.out] at hB
          have hblk : ∀ k, k < wc.heap.size → W.heap[k]? = wc.heap[k]? := fun k hk => (hF.block k (by have := bY2.size; omega) (by omega)).trans (bY2.block k hk)
          have BW2 : Blk W w3.heap.size 47 #[.slice wA L.length wc'] := (hblk _ BW.lt).trans BW
          have BM2 : Blk W w.heap.size 3 #[.int .i64 most] := (hblk _ (Nat.lt_of_lt_of_le B03.lt hbw)).trans (B03.below bw B03.lt)
          have BRr := BR2'.frm hF (by omega)
          have bW2 := bY2.trans (hF.below (by omega) (fun k hk e => by omega))
          obtain ⟨m0, mf, ml⟩ := BM2.c1
          obtain ⟨v0, vf, vl⟩ := BW2.c1
          obtain ⟨n0, nf, nl⟩ := hB.c1
          obtain ⟨r0, rf, rl⟩ := BRr.c1
          have hE1 : ((L.length : Int) != (L.length : Int)) = false := bne_self_eq_false _
          go_wp2
          have BR3 : Blk (W.alloc (.cells #[.int .i64 3] 3)) W.heap.size 3 #[.int .i64 3] := Blk.new _ _ _
          have bX3 := bW2.alloc bW2.size (.cells #[.int .i64 3] 3)
          have hm3 := mY2.step BN2 hF bY2.size hK (.cells #[.int .i64 3] 3)
          have hrw3 : wc.heap.size ≤ W.heap.size := bW2.size
          generalize W.alloc (.cells #[.int .i64 3] 3) = X3 at *
          obtain ⟨V3, rfl⟩ : ∃ V, V = W := ⟨_, rfl⟩
          clear hblk BW2 BM2 BRr bW2 m0 mf ml v0 vf vl n0 nf nl r0 rf rl hE1 hB hF hsz hK BN2 BR2' bY2 mY2
          rw [rounds_succ]
          obtain ⟨t0, tf, tl⟩ := BR3.c1
          have b3X := bw.trans (bX3.mono hbw)
          have bwX := b03.trans (b3X.mono b03.size)
          have hk := kept17_ok (c := c) (I3.below b3X (Nat.le_refl _)) (h.below bwX (.inr (Nat.le_refl _))) (by omega)
          have BT := B13.below b3X B13.lt
          obtain ⟨u0, uf, ul⟩ := BT.c1
          go_wp2_with (first
            | (go_at_call 32; refine hk.mono ?_; rintro r8 w8 ⟨rfl, b8⟩)
            | (go_at_call 37; refine (awake17_ok _).mono ?_; rintro r9 w9 ⟨rfl, b9⟩; obtain ⟨u0, uf, ul⟩ := ((BT.below b8 BT.lt).below b9 (BT.below b8 BT.lt).lt).c1))
          have b89 := b8.trans (b9.mono b8.size)
          have bw9 := bwX.trans (b89.mono bwX.size)
          have F9 := (Frm.refl (fun k => k = w.heap.size + 1) w9).set (b := w.heap.size + 1) (j := 0) rfl (.bool true)
          have hm9 := (hm3.keep (F := fun _ => False) (Frm.of_below b89) (fun _ _ => id)).keep F9 (fun q hq e => by have := (hm3.each q hq).1; have := B13.lt; omega)
          have BT9 := ((BT.below b8 BT.lt).below b9 (BT.below b8 BT.lt).lt).set_ 0 (.bool true)
          have bwS := bw9.setCell (p := ⟨w.heap.size + 1, 0, none⟩) (by simp) (.bool true)
          refine leaves_marks (D := wc.heap.size) [Y2.heap.size, Y1.heap.size, Y0.heap.size] _ hm9 (fun W' hF => ⟨_, results_cellb rfl _ _ (w.heap.size + 1) (.bool true) rfl ?_, rfl, ?_⟩)
          · have hn : ¬ (w.heap.size + 1 ∈ [Y2.heap.size, Y1.heap.size, Y0.heap.size]) := fun hq => by have := (hm3.each _ hq).1; have := B13.lt; omega
            have := (BT9.frm hF hn).cell 0
            simpa using this
          · exact bwS.trans (hF.below bwS.size (fun k hk hq => by have := (hm3.each _ hq).1; have := b03.size; omega))
end Go.Proofs.Ythifeccmbojcdaa
