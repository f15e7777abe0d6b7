/- A sequence under way: ahead. -/
import Derived.Test.YtpdackbcnbhppaaR14
import Derived.RangeFuncCalls
namespace Go.Proofs.Ytpdackbcnbhppaa
open Go.RowKit
attribute [local go_sem] Oper.semAt_some

theorem results_cu {fn : Func} {p : Tmp} (h : fn.results = #[.cell p 28]) (tmps : Array Value) (w : World) (b : Nat) (v : Int) (hp : tmps.getD p undef = .pointer (some ⟨b, 0, none⟩)) (hc : w.cell? ⟨b, 0, none⟩ = some (.int .u8 v)) : (results fn tmps).run Try.prog w = .ok (.int .u8 v) w := by
  have hp' : tmps[p]?.getD undef = .pointer (some ⟨b, 0, none⟩) := by simpa using hp
  have hu := run_underlying (P := Try.prog) Try.underlying28 (w := w)
  simp [results, h, hp', asAddr, loadVar, isAgg, hu, hc, go_sem]

/-- How the loop is left: a strong one is found. -/
def AheadEnd (Y : World) (u : Nat) (cs : List Int) (sos : Int) (k : Nat) (W : World) : Prop :=
  Blk W u 28 #[.int .u8 (ahT cs sos k)] ∧ Frm (fun i => i = u ∨ i = Y.heap.size + 1) Y W ∧ Y.heap.size + 1 < W.heap.size

set_option maxRecDepth 100000 in
set_option maxHeartbeats 2000000 in
theorem ahead_ok {w : World} {b g n cc pc fn fc : Nat} {pA fA : Option Addr} {pl cs fs : List Int} {lv so eo way : Int} {Bp : Nat} (h : QIs w b g n cc pc fn fc pA fA pl cs fs lv so eo way Bp) {k : Nat} (hk : k ≤ n) (hm : n ≤ 1048576) :
    Calls Try.prog 90 #[.pointer (some ⟨b, 0, none⟩), .int .i64 k] w fun e w' => e = .returned (.int .u8 (ahT cs so k)) ∧ Below w.heap.size w w' := by
  have hcl0 : b < w.heap.size := h.blk.lt
  have hgs : g < w.heap.size := (h.ic.at_).2.2.2.2.1
  obtain ⟨c0, c1, c2, c3, c4, c5, c6, cf, cl⟩ := h.c7
  have hcc := (h.ic.at_).2.1
  have hcl := (h.ic.at_).1
  have hkc : k ≤ cc := by omega
  have HCL := Lib.hid hcl
  have hI0 : Ints w 0 28 .u8 (.slice (some ⟨g, 0, none⟩) k cc) (cs.take k) := h.ic.cut k (by omega)
  have hR0 : RdInts w w.heap.size .u8 (some ⟨g, 0, none⟩) (cs.take k) := hI0.rd
  have htl : (cs.take k).length = k := by rw [List.length_take]; omega
  have hget : ∀ i, i < k → (cs.take k).getD i 0 = cs.getD i 0 := fun i hi => by rw [List.getD_eq_getElem?_getD, List.getElem?_take, if_pos hi, ← List.getD_eq_getElem?_getD]
  have HTL := Lib.hid htl
  have HG := Lib.hid hget
  clear htl hget hcl hcc hI0
  have b0 : Below w.heap.size w (w.alloc (.cells #[.int .u8 0] 28)) := (Below.refl _ w).alloc (Nat.le_refl _) _
  have X4 : Blk (w.alloc (.cells #[.int .u8 0] 28)) w.heap.size 28 #[.int .u8 0] := Blk.new w 28 _
  refine (callsIn_wide (n := 5)).1 ?_
  refine callsIn_of_wp_marks Try.func90 rfl trivial ?_ rfl
  simp only [Try.ntmps90, List.size_toArray, List.length_cons, List.length_nil, Nat.reduceAdd, Nat.reduceSub, Array.replicate_succ, Array.replicate_zero, List.push_toArray, List.append_toArray, List.nil_append, List.cons_append]
  refine wpIn_wide.2 ?_
  go_wp2_with (go_at_call 98; refine BackC_ok.mono ?_; rintro r2 w2 ⟨rfl, B2, b2⟩)
  have hs1 : (w.alloc (.cells #[.int .u8 0] 28)).heap.size = w.heap.size + 1 := World.size_alloc _ _
  rw [hs1] at B2 b2
  have Y4 := X4.below b2 (by omega)
  have bY := b0.trans (b2.mono (by omega))
  have QY := h.below bY (Nat.le_refl _)
  have RY := hR0.below bY (.inl (Nat.le_refl _))
  have hs2 := B2.lt
  clear X4 b0 b2 c0 c1 c2 c3 c4 c5 c6 cf cl hR0 hs1
  obtain ⟨u, hu⟩ : ∃ u, w.heap.size = u := ⟨_, rfl⟩
  rw [hu] at Y4 B2 hs2 RY bY hcl0 hgs ⊢
  have HU := Lib.hid hu
  clear hu
  obtain ⟨Y, rfl⟩ : ∃ Y, Y = w2 := ⟨_, rfl⟩
  refine wpIn_wide.1 (wpIn_rangeFunc_break (n := 5) (F := Fence.wide) rfl (by omega) (gf := 107) (lb := #[.pointer (some ⟨u + 1, 0, none⟩)]) rfl trivial (enters_of Try.func107 (by kernel_rfl) rfl)
    (encs := fun j : Nat => clEnc j ((cs.take k).getD j 0)) (fun _ => rfl) Code.ret
    (fun j W => (Frm (fun i => i = Y.heap.size + 1) Y W ∧ Y.heap.size + 1 < W.heap.size) ∧ j < k ∧ ahT cs so k = ahT cs so (j + 1))
    (fun j _ W' => (Frm (fun i => i = Y.heap.size + 1) Y W' ∧ Y.heap.size + 1 < W'.heap.size) ∧ ahT cs so k = ahT cs so j)
    (fun _ _ W' => AheadEnd Y u cs so k W')
    (fun W => (Frm (fun i => i = Y.heap.size + 1) Y W ∧ Y.heap.size + 1 < W.heap.size) ∧ ahT cs so k = so) (AheadEnd Y u cs so k)
    ?round ?st1 ?st2 ?call ?fin ?finb ?done ?stop)
  case st1 => rintro j W Wa Wb ⟨⟨h1, h2⟩, h3⟩ hF; exact ⟨⟨h1.trans hF (fun _ _ e => e), by have := hF.size; omega⟩, h3⟩
  case st2 => rintro j W Wa Wb ⟨h1, h2, h3⟩ hF; exact ⟨h1.frm hF (by omega), h2.trans hF (fun _ _ e => .inr e), by have := hF.size; omega⟩
  case fin => rintro Wa Wb ⟨⟨h1, h2⟩, h3⟩ hF; exact ⟨⟨h1.trans hF (fun _ _ e => e), by have := hF.size; omega⟩, h3⟩
  case finb => rintro Wa Wb ⟨h1, h2, h3⟩ hF; exact ⟨h1.frm hF (by omega), h2.trans hF (fun _ _ e => .inr e), by have := hF.size; omega⟩
  case call =>
    intro W1 hF1 hW1 Rdy Dn hsz1 hst hR1 hY
    have := bwdC_ok (W1 := W1) (bx := u + 1) (yb := Y.heap.size + 1) (n := k) (c := cc) (B := u) (A := some ⟨g, 0, none⟩) (l := cs.take k) HTL.out.symm (by omega)
      (J := fun j W => ((Frm (fun i => i = Y.heap.size + 1) Y W ∧ Y.heap.size + 1 < W.heap.size) ∧ ahT cs so k = ahT cs so j) ∧ Rdy W)
      ⟨⟨⟨hF1.mono (fun _ _ e => e.elim), hW1⟩, rfl⟩, hR1⟩ (fun j W hJ => ⟨B2.frm hJ.1.1.1 (by omega), Reads.frm RY hJ.1.1.1 (fun i hi _ e => by omega)⟩)
      (Jx := fun W => AheadEnd Y u cs so k W ∧ Dn W) (d := 4) (by omega) (fun j W hj hJ => ?_)
    · refine this.mono ?_
      rintro e W2 ⟨hv, (⟨⟨h1, h2⟩, h3⟩ | ⟨h1, h2⟩)⟩
      · exact ⟨hv, .inl ⟨⟨h1, h2⟩, h3⟩⟩
      · exact ⟨hv, .inr ⟨h1, h2⟩⟩
    · obtain ⟨fn, tmps, asg, bd, hy, hRo⟩ := hY j W ⟨hJ.1.1, hj, hJ.1.2⟩ hJ.2
      refine ⟨fn, tmps, asg, bd, hy, hRo.mono fun e w' h => ?_⟩
      rcases h with ⟨h1, h2, h3⟩ | ⟨h1, h2, h3⟩
      · exact .inl ⟨h1, h2, h3⟩
      · exact .inr ⟨h1, h2, h3⟩
  case round =>
    rintro j W K hW ⟨⟨hI, hIs⟩, hj, hsc⟩ hK
    rw [HG.out j hj]
    obtain ⟨x, hx⟩ : ∃ x, cs.getD j 0 = x := ⟨_, rfl⟩
    have hsj : ahT cs so (j + 1) = if sdL x ≠ 0 then sdL x else ahT cs so j := by rw [← hx]; rfl
    rw [hsj] at hsc
    have CS : ∀ W, Calls Try.prog 97 #[.int .u8 x] W fun e w' => e = .returned (.int .u8 (sdL x)) ∧ w' = W := fun W => side_ok W x
    obtain ⟨sd, hsd⟩ : ∃ sd, sdL x = sd := ⟨_, rfl⟩
    rw [hsd] at CS hsc
    have HSC := Lib.hid hsc
    rw [hx]
    clear hsc hsj hx hsd
    unfold clEnc
    simp only [List.zip_toArray, List.zip_cons_cons, List.zip_nil_right, List.foldl_toArray, List.foldl_cons, List.foldl_nil, List.setIfInBounds_toArray, List.set_cons_zero, List.set_cons_succ]
    gi_wp2
    refine hK _ _ (Two.refl _ _) ?_
    intro V hV
    have FV : Frm (fun i => i = Y.heap.size + 1) Y V := hI.trans hV (fun _ _ e => e)
    have hVs := hV.size
    have Z4 := Y4.frm FV (by omega)
    obtain ⟨z0, zf, zl⟩ := Z4.c1
    clear hK
    by_cases hs0 : sd = 0
    · subst hs0
      gi_wp2
      refine ⟨trivial, (CallsIn.inRound (Y.heap.size + 1) (callsIn_wide.2 (CS _))).mono ?_⟩
      rintro r3 w3 ⟨rfl, rfl⟩
      gi_wp2
      refine ⟨Two.refl _ _, ⟨FV, by omega⟩, ?_⟩
      have := HSC.out
      rw [if_neg (fun h => h rfl)] at this
      exact this
    · have hs1 : (sd != 0) = true := by simpa using hs0
      gi_wp2
      refine ⟨trivial, (CallsIn.inRound (Y.heap.size + 1) (callsIn_wide.2 (CS _))).mono ?_⟩
      rintro r3 w3 ⟨rfl, rfl⟩
      gi_wp2
      have FS : Frm (fun i => i = u) w3 (w3.setCell ⟨u, 0, none⟩ (.int .u8 sd)) := (Frm.refl (fun i => i = u) w3).set rfl _
      have BS : Blk (w3.setCell ⟨u, 0, none⟩ (.int .u8 sd)) u 28 #[.int .u8 sd] := by simpa using Z4.set_ 0 (.int .u8 sd)
      have hsc := HSC.out
      rw [if_pos hs0] at hsc
      have hss := FS.size
      refine ⟨Two.of_frm FS (by omega) (by omega) (by omega), rfl, by rw [hsc]; exact BS, (FV.mono (fun _ _ e => .inr e)).trans FS (fun _ _ e => .inl e), by omega⟩
  case done =>
    rintro W ⟨⟨h1, h2⟩, h3⟩ hK
    have Z4 := Y4.frm h1 (by omega)
    obtain ⟨z0, zf, zl⟩ := Z4.c1
    have QW := QY.frm (F := fun i => i = Y.heap.size + 1) h1 (by omega) (by omega) (fun q _ _ hq => by omega)
    obtain ⟨c0, c1, c2, c3, c4, c5, c6, cf, cl⟩ := QW.c7
    go_wp2
    have FS : Frm (fun i => i = u) W (W.setCell ⟨u, 0, none⟩ (.int .u8 so)) := (Frm.refl (fun i => i = u) W).set rfl _
    have BS : Blk (W.setCell ⟨u, 0, none⟩ (.int .u8 so)) u 28 #[.int .u8 so] := by simpa using Z4.set_ 0 (.int .u8 so)
    have hKD := (FS.block Y.heap.size (by omega) (by omega)).trans hK
    generalize W.setCell ⟨u, 0, none⟩ (.int .u8 so) = WD at *
    have FF := (Frm.refl (fun i => i = Y.heap.size) WD).put (k := Y.heap.size) rfl (.deferred none)
    refine ⟨by simp, .inl ⟨_, _, rfl, run_takeDeferred hKD, ?_⟩⟩
    refine ⟨_, results_cu rfl _ _ u so rfl (BS.frm FF (by omega)).c1.1, by rw [h3], ?_⟩
    rw [HU.out]
    have FA : Frm (fun i => u ≤ i) Y _ := ((h1.mono (F' := fun i => u ≤ i) (fun i _ e => by omega)).trans FS (fun i _ e => by omega)).trans FF (fun i _ e => by omega)
    exact bY.trans (FA.below (by omega) (fun i hi e => by omega))
  case stop =>
    rintro W hE hK
    refine wpIn_wide.2 ?_
    go_wp2
    obtain ⟨q1, q2, q3⟩ := hE
    have FF := (Frm.refl (fun i => i = Y.heap.size) W).put (k := Y.heap.size) rfl (.deferred none)
    refine ⟨by simp, .inl ⟨_, _, rfl, run_takeDeferred hK, ?_⟩⟩
    refine ⟨_, results_cu rfl _ _ u _ rfl (q1.frm FF (by omega)).c1.1, rfl, ?_⟩
    rw [HU.out]
    have FA : Frm (fun i => u ≤ i) Y _ := (q2.mono (F' := fun i => u ≤ i) (fun i _ e => by omega)).trans FF (fun i _ e => by omega)
    exact bY.trans (FA.below (by omega) (fun i hi e => by omega))
end Go.Proofs.Ytpdackbcnbhppaa
