/- A sequence that is all of a text. -/
import Derived.Test.YtpdackbcnbhppaaR19
namespace Go.Proofs.Ytpdackbcnbhppaa
open Go.RowKit
attribute [local go_sem] Oper.semAt_some

/-- The sequence under way, the answer's block; both ends are L. -/
structure SqW (D : Nat) (lv : Int) (wr : World) (ps cs : List Int) (pv cv : Value) : Prop where
  blk : Blk wr (D + 1) 35 #[pv, cv, .int .i8 lv, .int .u8 1, .int .u8 1]
  res : Blk wr D 35 #[.slice none 0 0, .slice none 0 0, .int .i8 0, .int .u8 0, .int .u8 0]
  I : Ints wr (D + 2) 3 .i64 pv ps
  J : Ints wr (D + 2) 28 .u8 cv cs
  ne : ∀ j, pv.ownBlock = some j → cv.ownBlock ≠ some j
theorem SqW.alloc {D : Nat} {lv : Int} {wr : World} {ps cs : List Int} {pv cv : Value} (h : SqW D lv wr ps cs pv cv) (o : Obj) : SqW D lv (wr.alloc o) ps cs pv cv := ⟨h.blk.alloc o, h.res.alloc o, h.I.alloc o, h.J.alloc o, h.ne⟩
theorem SqW.drew {D : Nat} {lv : Int} {wr : World} {ps cs : List Int} {pv cv : Value} (h : SqW D lv wr ps cs pv cv) : SqW D lv wr.drew ps cs pv cv := ⟨h.blk, h.res, h.I, h.J, h.ne⟩
theorem SqW.step1 {D : Nat} {lv : Int} {wr : World} {ps cs : List Int} {pv cv : Value} (h : SqW D lv wr ps cs pv cv) {o : Obj} {w3 : World} {g n cap : Nat} {y : Int} (I3 : Ints w3 (D + 2) 3 .i64 (.slice (some ⟨g, 0, none⟩) n cap) (ps ++ [y]))
    (g3 : (wr.alloc o).grownBy w3 pv.ownBlock) (hg : pv.ownBlock = some g ∨ g = wr.heap.size + 1) : SqW D lv (w3.setCell ⟨D + 1, 0, none⟩ (.slice (some ⟨g, 0, none⟩) n cap)) (ps ++ [y]) cs (.slice (some ⟨g, 0, none⟩) n cap) cv := by
  have hf := (Frm.refl (fun k => k = D + 1) w3).set (b := D + 1) (j := 0) rfl (.slice (some ⟨g, 0, none⟩) n cap)
  have e1 : some (D + 1) ≠ pv.ownBlock := fun e => by have := (h.I.lt _ e.symm).1; omega
  have e0 : some D ≠ pv.ownBlock := fun e => by have := (h.I.lt _ e.symm).1; omega
  refine ⟨by simpa using ((h.blk.alloc o).grown g3 e1).set_ 0 _, ((h.res.alloc o).grown g3 e0).frm hf (by omega), I3.frm hf (fun j e => by have := (I3.lt j e).1; omega), ((h.J.alloc o).kept g3 ?_).frm hf (fun j e => by have := (h.J.lt j e).1; omega), ?_⟩
  · rcases hc : cv.ownBlock with _ | j
    · exact .inl rfl
    · right; intro e; exact h.ne j e.symm hc
  · intro j e
    have : g = j := by simpa [Value.ownBlock] using e
    subst this
    rcases hg with e | e
    · exact h.ne g e
    · intro e2; have := (h.J.lt _ e2).2; omega
theorem SqW.step2 {D : Nat} {lv : Int} {wr : World} {ps cs : List Int} {pv cv : Value} (h : SqW D lv wr ps cs pv cv) {o : Obj} {w3 : World} {g n cap : Nat} {y : Int} (J3 : Ints w3 (D + 2) 28 .u8 (.slice (some ⟨g, 0, none⟩) n cap) (cs ++ [y]))
    (g3 : (wr.alloc o).grownBy w3 cv.ownBlock) (hg : cv.ownBlock = some g ∨ g = wr.heap.size + 1) : SqW D lv (w3.setCell ⟨D + 1, 1, none⟩ (.slice (some ⟨g, 0, none⟩) n cap)) ps (cs ++ [y]) pv (.slice (some ⟨g, 0, none⟩) n cap) := by
  have hf := (Frm.refl (fun k => k = D + 1) w3).set (b := D + 1) (j := 1) rfl (.slice (some ⟨g, 0, none⟩) n cap)
  have e1 : some (D + 1) ≠ cv.ownBlock := fun e => by have := (h.J.lt _ e.symm).1; omega
  have e0 : some D ≠ cv.ownBlock := fun e => by have := (h.J.lt _ e.symm).1; omega
  refine ⟨by simpa using ((h.blk.alloc o).grown g3 e1).set_ 1 _, ((h.res.alloc o).grown g3 e0).frm hf (by omega), ((h.I.alloc o).kept g3 ?_).frm hf (fun j e => by have := (h.I.lt j e).1; omega), J3.frm hf (fun j e => by have := (J3.lt j e).1; omega), ?_⟩
  · rcases hc : pv.ownBlock with _ | j
    · exact .inl rfl
    · right; intro e; exact h.ne j hc e.symm
  · intro j e e2
    have : g = j := by simpa [Value.ownBlock] using e2
    subst this
    rcases hg with e3 | e3
    · exact h.ne g e e3
    · have := (h.I.lt _ e).2; omega

theorem SqW.finish {D : Nat} {l0 : Int} {w X : World} {ps cs : List Int} {pv cv : Value} (h : SqW D l0 X ps cs pv cv) (b : Below D w X) {W : World}
    (hW : W = (((((X.setCell ⟨D, 0, none⟩ pv).setCell ⟨D, 1, none⟩ cv).setCell ⟨D, 2, none⟩ (.int .i8 l0)).setCell ⟨D, 3, none⟩ (.int .u8 1)).setCell ⟨D, 4, none⟩ (.int .u8 1))) :
    Blk W D 35 #[pv, cv, .int .i8 l0, .int .u8 1, .int .u8 1] ∧ Ints W D 3 .i64 pv ps ∧ Ints W D 28 .u8 cv cs ∧ Below D w W := by
  have F : Frm (fun k => k = D) X W := by
    rw [hW]
    exact (((((Frm.refl (fun k => k = D) X).set rfl _).set rfl _).set rfl _).set rfl _).set rfl _
  refine ⟨?_, (h.I.frm F (fun j e => by have := (h.I.lt j e).1; omega)).base (fun j e => by have := ((h.I.frm F (fun j e => by have := (h.I.lt j e).1; omega)).lt j e).1; omega),
    (h.J.frm F (fun j e => by have := (h.J.lt j e).1; omega)).base (fun j e => by have := ((h.J.frm F (fun j e => by have := (h.J.lt j e).1; omega)).lt j e).1; omega), ?_⟩
  · rw [hW]
    have := ((((h.res.set_ 0 pv).set_ 1 cv).set_ 2 (.int .i8 l0)).set_ 3 (.int .u8 1)).set_ 4 (.int .u8 1)
    simpa using this
  · rw [hW]
    exact ((((b.setCell (by simp) _).setCell (by simp) _).setCell (by simp) _).setCell (by simp) _).setCell (by simp) _
/-- The numbers from 0 on. -/
def idsL (n : Nat) : List Int := (List.range n).map (fun (k : Nat) => (k : Int))
theorem idsL_succ (n : Nat) : idsL (n + 1) = idsL n ++ [(n : Int)] := by unfold idsL; rw [List.range_succ, List.map_append]; rfl
theorem idsL_length (n : Nat) : (idsL n).length = n := by simp [idsL]

set_option maxRecDepth 100000 in
set_option maxHeartbeats 4000000 in
theorem whole_ok {w : World} {B c : Nat} {A : Option Addr} {cs : List Int} (h : RdInts w B .u8 A cs) (hn : cs.length ≤ 1048576) :
    Calls Try.prog 39 #[.int .i8 0, .slice A cs.length c] w fun r w' => ∃ v, r = .returned v ∧ SqIs w' w'.heap.size v ⟨idsL cs.length, cs, 0, 1, 1⟩ ∧ Below w.heap.size w w' := by
  obtain ⟨n, hnn⟩ : ∃ n, cs.length = n := ⟨_, rfl⟩
  rw [hnn] at hn ⊢
  have HNN := Lib.hid hnn
  clear hnn
  go_enter Try.func39, Try.ntmps39
  go_wp2
  go_loopg [6] n (fun gk iv wr => ∃ j : Nat, j + gk = n ∧ iv = .int .i64 j ∧ ∃ pv cv, SqW w.heap.size 0 wr (idsL j) (cs.take j) pv cv ∧ Below w.heap.size w wr)
  case atStart =>
    refine ⟨0, by omega, rfl, .slice none 0 0, .slice none 0 0, ⟨?_, ?_, by simpa [idsL] using Ints.nil _ _ _ _, by simpa using Ints.nil _ _ _ _, by simp [Value.ownBlock]⟩, ?_⟩
    · have := Blk.new (w.alloc (.cells #[.slice none 0 0, .slice none 0 0, .int .i8 0, .int .u8 0, .int .u8 0] 35)) 35 #[.slice none 0 0, .slice none 0 0, .int .i8 0, .int .u8 1, .int .u8 1]
      rwa [World.size_alloc] at this
    · exact (Blk.new w 35 _).alloc _
    · exact ((Below.refl _ _).alloc (Nat.le_refl _) _).alloc (by simp) _
  case round =>
    obtain ⟨j, hj, rfl, pv, cv, hS, hb2⟩ := hrel
    have HJ := Lib.hid hj
    clear hj
    have hbs2 := hb2.size
    obtain ⟨q0, q1, q2, q3, q4, qf, ql⟩ := hS.blk.c5
    have hps := idsL_length j
    have hcn : (cs.take j).length = j := by rw [List.length_take]; have := HNN.out; have := HJ.out; omega
    by_cases hlt : j < n
    · obtain ⟨pA, pc, rfl, _, _, _⟩ := hS.I.val
      obtain ⟨cA, cc, rfl, _, _, _⟩ := hS.J.val
      have h1 := h.below hb2 (.inr (Nat.le_refl _))
      obtain ⟨b1, o1, rfl, _, hb1, k1⟩ := h1.at_ (i := j) (by have := HNN.out; omega)
      have hN := idsL_succ j
      have hC : cs.take (j + 1) = cs.take j ++ [cs.getD j 0] := by
        rw [List.take_add_one, List.getD_eq_getElem?_getD, List.getElem?_eq_getElem (by have := HNN.out; omega)]; rfl
      generalize hnx : cs.getD j 0 = nx at k1 hC
      have HNX := Lib.hid hnx
      clear hnx
      generalize idsL j = ps2 at *
      generalize cs.take j = cs2 at *
      rw [hps] at hS q0
      rw [hcn] at hS q1
      have HPS := Lib.hid hps
      have HCN := Lib.hid hcn
      clear hps hcn
      have HN := Lib.hid hN
      have HCC := Lib.hid hC
      clear hN hC
      go_wp2_with (at_builtin; go_must (refine wpList_appI ei24 rfl rfl rfl (hS.I.alloc _) rfl (Blk.at_ (by simp)) ?_ ?_ ?_ ?_))
      · rw [HPS.out]; unfold maxLen; omega
      · rw [HPS.out]; omega
      · simp; omega
      intro g cap w3 I3 g3 hg
      rw [HPS.out] at I3 ⊢
      have S4 := hS.step1 I3 g3 (by simpa using hg)
      have b4 := below_app (d := w.heap.size + 1) (j := 0) (u := .slice (some ⟨g, 0, none⟩) (j + 1) cap) hb2 hbs2 g3 (fun k e => by have := (hS.I.lt k e).1; omega) (by omega)
      have w0f : w3.frozen? ⟨w.heap.size + 1, 0, none⟩ = false := ((hS.blk.alloc _).grown g3 (fun e => by have := (hS.I.lt _ e.symm).1; omega)).frozen 0
      have w0c : w3.cell? ⟨w.heap.size + 1, 0, none⟩ = some (Value.slice pA j pc) := by rw [((hS.blk.alloc _).grown g3 (fun e => by have := (hS.I.lt _ e.symm).1; omega)).cell]; rfl
      clear hS hb2 q0 q1 q2 q3 q4 qf ql k1 h1
      go_wp2
      generalize w3.setCell ⟨w.heap.size + 1, 0, none⟩ (.slice (some ⟨g, 0, none⟩) (j + 1) cap) = w4 at *
      obtain ⟨q0, q1, q2, q3, q4, qf, ql⟩ := S4.blk.c5
      have h1 := h.below b4 (.inr (Nat.le_refl _))
      obtain ⟨b', o', e, _, hb1, k1⟩ := h1.at_ (i := j) (by have := HNN.out; omega)
      injection e with e
      injection e with e1 e2
      subst e1 e2
      rw [HNX.out] at k1
      have hs4 := b4.size
      clear g3 I3 hg w0f w0c
      go_region_law (first
        | (refine step_appI (v := .slice cA j cc) ei22 rfl (.tmp 27) (.tmp 32) rfl rfl (S4.alloc _).drew.J rfl (Blk.at_ (w := w4) (by simp)).drew (by rw [HCN.out]; unfold maxLen; omega) (by rw [HCN.out]; omega) (by simp; omega) ?_
           intro g2 cap2 w5 J5 g5 hg5
           have B5 := (S4.alloc _).drew.blk.grown g5 (fun e => by have := (S4.J.lt _ e.symm).1; omega)
           have w5f := B5.frozen 1
           have w5c := B5.cell 1
           rw [HCN.out] at J5 ⊢))
      all_goals
        have hg5 : (Value.slice cA j cc).ownBlock = some g2 ∨ g2 = w4.heap.size + 1 := by simpa using hg5
        have S6 := S4.drew.step2 J5 g5 hg5
        have b6 := below_app (d := w.heap.size + 1) (j := 1) (u := .slice (some ⟨g2, 0, none⟩) (j + 1) cap2) b4.drew hs4 g5 (fun k e => by have := (S4.J.lt k e).1; omega) (by omega)
        clear S4 b4 q0 q1 q2 q3 q4 qf ql k1 h1 w5f w5c J5 g5 B5
        go_wp2
        go_roundg (n - (j + 1))
        case rel =>
          refine ⟨j + 1, by have := HJ.out; omega, by go_num, .slice (some ⟨g, 0, none⟩) (j + 1) cap, .slice (some ⟨g2, 0, none⟩) (j + 1) cap2, ?_, b6⟩
          rw [HN.out, HCC.out]
          exact S6
        case measure => have := HJ.out; omega
    · have hjn : j = n := by have := HJ.out; omega
      subst hjn
      have hct : cs.take j = cs := by rw [List.take_of_length_le (by have := HNN.out; omega)]
      rw [hct] at hS hcn
      obtain ⟨pA, pc, rfl, _, _, rp⟩ := hS.I.val
      obtain ⟨cA, cc, rfl, _, _, rc⟩ := hS.J.val
      have hpl : (idsL j).length = j := hps
      have r0 := hS.res.cell 0
      have r1 := hS.res.cell 1
      have r2 := hS.res.cell 2
      have r3 := hS.res.cell 3
      have r4 := hS.res.cell 4
      have rf := hS.res.frozen
      have rl := hS.res.lt
      rw [hps] at q0 hS
      rw [hcn] at q1 hS
      go_wp2
      obtain ⟨f0, f1, f2, f3⟩ := hS.finish hb2 rfl
      refine bodyPost_ret (results_row0 rfl _ _ w.heap.size 35 _ _ rfl f0 Try.underlying35 rfl rfl) rfl ?_
      have g1 := f1.rd
      have g2 := f2.rd
      exact ⟨_, rfl, ⟨pA, cA, pc, cc, by rw [hpl, HNN.out]; rfl, g1, g2, by rw [hpl]; omega, by rw [HNN.out]; omega⟩, f3⟩
end Go.Proofs.Ytpdackbcnbhppaa
