/- The law's own 'explicit' walked: levels, classes, sequences. -/
import Derived.Test.YtpdackbcnbhppaaX5
import Derived.Test.YtpdackbcnbhppaaE7
import Derived.Test.YtpdackbcnbhppaaT8
import Derived.Test.YtpdackbcnbhppaaH6
namespace Go.Proofs.Ytpdackbcnbhppaa
open Go.RowKit
attribute [local go_sem] Oper.semAt_some

theorem results_row2 {P : Program} {fn : Func} {p u1 u2 : Tmp} {ty : TypeId} (h : fn.results = #[.cell p ty, .tmp u1, .tmp u2]) (tmps : Array Value) (w : World) (g : Nat) (t : TypeId) (cs : Array Value) (d : TypeDesc)
    (hp : tmps.getD p undef = .pointer (some ⟨g, 0, none⟩)) (hg : Blk w g t cs)
    (hu : P.underlying ty = some d) (hd : (match d with | .struct _ | .array _ _ => true | _ => false) = true) (hi : (P.info? ty).map (·.size) = some cs.size) :
    (results fn tmps).run P w = .ok (.tuple #[.agg cs, tmps.getD u1 undef, tmps.getD u2 undef]) w := by
  have hp' : tmps[p]?.getD undef = .pointer (some ⟨g, 0, none⟩) := by simpa using hp
  simp [results, h, hp', asAddr, run_loadVar_row w g t ty cs (0, 0) d hg hu hd hi]

/-- The sequences of explicit levels. -/
def exS (base : Int) (cl : List Int) : List Sq := (leads (rnL (exL base cl) cl).length (nxQ (exL base cl) cl)).map (sqL cl (exC base cl) (exL base cl) base)

set_option maxRecDepth 100000 in
set_option maxHeartbeats 2000000 in
theorem explicit_ok {w : World} {B n c : Nat} {A : Option Addr} {l : List Int} {base : Int} (hb : base = 0 ∨ base = 1) (hn : n = l.length) (h : RdInts w B .u8 A l) (hB : B ≤ w.heap.size) (hl : n ≤ 1048576) :
    Calls Try.prog 19 #[.int .i8 base, .slice A n c] w fun r w' => ∃ lA lc cA cc mA mc ov, r = .returned (.tuple #[.agg #[.slice lA n lc, .slice cA n cc, .slice mA n mc], ov, .bool true]) ∧
      Ints w' w.heap.size 23 .i8 (.slice lA n lc) (exL base l) ∧ Ints w' w.heap.size 28 .u8 (.slice cA n cc) (exC base l) ∧ SqsOwn w' w.heap.size ov (exS base l) ∧ Below w.heap.size w w' := by
  obtain ⟨k1, k2⟩ := runS_len base l (auP l) l.length
  have k3 := (matchL_inv l).len
  have hx : exA base l = ⟨exL base l, exC base l, matchL l, 0⟩ := by
    unfold exA
    rw [if_neg (by omega), if_neg (by omega)]
    rfl
  have hL : (exL base l).length = n := by rw [hn]; exact k1
  have hC : (exC base l).length = n := by rw [hn]; exact k2
  have CE : ∀ W, Aft w W → Calls Try.prog 54 #[.int .i8 base, .slice A n c] W fun r w' => ∃ lA lc cA cc mA mc, r = .returned (.tuple #[.agg #[.slice lA n lc, .slice cA n cc, .slice mA n mc], .int .i64 0]) ∧
      Ints w' W.heap.size 23 .i8 (.slice lA n lc) (exL base l) ∧ Ints w' W.heap.size 28 .u8 (.slice cA n cc) (exC base l) ∧ Below W.heap.size W w' := by
    intro W hA
    have := Explicit_all (c := c) base (Reads.below h hA (.inl hB)) (by have := hA.le; omega)
    rw [hx, ← hn] at this
    simp only [hL, hC, k3, ← hn] at this
    refine this.mono ?_
    rintro r w' ⟨lA, lc, cA, cc, mA, mc, rfl, hE, _, hbel⟩
    have e1 := hE.l
    have e2 := hE.c
    simp only [hL, hC] at e1 e2
    exact ⟨lA, lc, cA, cc, mA, mc, rfl, e1, e2, hbel⟩
  have CS : ∀ W lA lc cA cc, Aft w W → RdInts W W.heap.size .i8 lA (exL base l) → RdInts W W.heap.size .u8 cA (exC base l) → Calls Try.prog 16 #[.slice A n c, .slice cA n cc, .slice lA n lc, .int .i8 base] W fun r w' => ∃ ov, r = .returned (.tuple #[ov, .int .i64 0]) ∧ SqsOwn w' W.heap.size ov (exS base l) ∧ Below W.heap.size W w' := by
    intro W lA lc cA cc hA h1 h2
    have := Sequences_ok (c0 := c) (c1 := cc) (c2 := lc) base hn hC.symm hL.symm (Reads.below h hA (.inl hB)) h2 h1 hb (by omega)
    rw [seqs_ok hb l] at this
    exact this
  clear hx hL hC k1 k2 k3 h hn
  have X0 := Blk.new w 40 #[.slice none 0 0, .slice none 0 0, .slice none 0 0]
  have a0 := (Aft.refl w).alloc (.cells #[.slice none 0 0, .slice none 0 0, .slice none 0 0] 40)
  obtain ⟨x0, x1, x2, xf, xl⟩ := X0.c3
  go_enter Try.func19, Try.ntmps19
  go_upto_region 1 with (fail)
  obtain ⟨W0, hW0⟩ : ∃ W0, w.alloc (.cells #[.slice none 0 0, .slice none 0 0, .slice none 0 0] 40) = W0 := ⟨_, rfl⟩
  rw [hW0] at X0 a0
  rw [hW0]
  obtain ⟨g, hg⟩ : ∃ g, w.heap.size = g := ⟨_, rfl⟩
  rw [hg] at X0
  rw [hg]
  have hgW : g < W0.heap.size := X0.lt
  have HG := Lib.hid hg
  clear x0 x1 x2 xf xl hW0 hg
  obtain ⟨x0, x1, x2, xf, xl⟩ := X0.c3
  go_wp2_with fail
  refine (CE _ a0).mono ?_
  rintro r1 w1 ⟨lA, lc, cA, cc, mA, mc, rfl, I1, I2, b1⟩
  have a1 := a0.trans b1
  have hs1 := b1.size
  have X1 := X0.aft b1
  clear x0 x1 x2 xf xl
  obtain ⟨x0, x1, x2, xf, xl⟩ := X1.c3
  have Z := Blk.new w1 40 #[.slice none 0 0, .slice none 0 0, .slice none 0 0]
  obtain ⟨z0, z1, z2, zf, zl⟩ := Z.c3
  have Y := Blk.new w1 40 #[.slice lA n lc, .slice cA n cc, .slice mA n mc]
  have X2 := X1.alloc (.cells #[.slice lA n lc, .slice cA n cc, .slice mA n mc] 40)
  have a2 := a1.alloc (.cells #[.slice lA n lc, .slice cA n cc, .slice mA n mc] 40)
  have J1 := I1.alloc (.cells #[.slice lA n lc, .slice cA n cc, .slice mA n mc] 40)
  have J2 := I2.alloc (.cells #[.slice lA n lc, .slice cA n cc, .slice mA n mc] 40)
  go_upto_region 2 with (fail)
  obtain ⟨W2, hW2⟩ : ∃ W2, w1.alloc (.cells #[.slice lA n lc, .slice cA n cc, .slice mA n mc] 40) = W2 := ⟨_, rfl⟩
  have hs2 : W0.heap.size ≤ W2.heap.size := by rw [← hW2]; simp; omega
  rw [hW2] at X2 a2 J1 J2
  rw [hW2]
  obtain ⟨y, hy⟩ : ∃ y, w1.heap.size = y := ⟨_, rfl⟩
  have hY : Blk W2 y 40 #[.slice lA n lc, .slice cA n cc, .slice mA n mc] := by rw [← hW2, ← hy]; exact Y
  have hgy : g < y := by omega
  rw [hy]
  clear x0 x1 x2 xf xl z0 z1 z2 zf zl Z Y hW2 hy X1 X0 a1 b1 I1 I2
  obtain ⟨x0, x1, x2, xf, xl⟩ := X2.c3
  obtain ⟨y0, y1, y2, yf, yl⟩ := hY.c3
  go_wp2_with fail
  refine (CS _ _ _ _ _ a2 J1.rd J2.rd).mono ?_
  rintro r3 w3 ⟨ov, rfl, SO, b3⟩
  have a3 := a2.trans b3
  have X3 := X2.aft b3
  have Y3 := hY.aft b3
  have K1 := J1.aft b3
  have K2 := J2.aft b3
  clear x0 x1 x2 xf xl y0 y1 y2 yf yl
  obtain ⟨x0, x1, x2, xf, xl⟩ := X3.c3
  obtain ⟨y0, y1, y2, yf, yl⟩ := Y3.c3
  go_wp2
  have hXF : Blk (((w3.setCell ⟨g, 0, none⟩ (.slice lA n lc)).setCell ⟨g, 1, none⟩ (.slice cA n cc)).setCell ⟨g, 2, none⟩ (.slice mA n mc)) g 40 #[.slice lA n lc, .slice cA n cc, .slice mA n mc] := by
    simpa using ((X3.set_ 0 (.slice lA n lc)).set_ 1 (.slice cA n cc)).set_ 2 (.slice mA n mc)
  have F9 : Frm (fun j => j = g) w3 (((w3.setCell ⟨g, 0, none⟩ (.slice lA n lc)).setCell ⟨g, 1, none⟩ (.slice cA n cc)).setCell ⟨g, 2, none⟩ (.slice mA n mc)) := (((Frm.refl (fun j => j = g) w3).set rfl _).set rfl _).set rfl _
  generalize (((w3.setCell ⟨g, 0, none⟩ (.slice lA n lc)).setCell ⟨g, 1, none⟩ (.slice cA n cc)).setCell ⟨g, 2, none⟩ (.slice mA n mc)) = w4 at *
  have hg0 : w.heap.size = g := HG.out
  refine bodyPost_ret (results_row2 rfl _ _ g 40 _ _ rfl hXF Try.underlying40 rfl (by kernel_rfl)) rfl ?_
  obtain ⟨L, hL, hS⟩ := SO
  exact ⟨lA, lc, cA, cc, mA, mc, ov, rfl, (K1.frm F9 (fun j e => by have := (K1.lt j e).1; omega)).base (fun j e => by have := (K1.lt j e).1; omega), (K2.frm F9 (fun j e => by have := (K2.lt j e).1; omega)).base (fun j e => by have := (K2.lt j e).1; omega),
    ⟨L, hL, (hS.frm1 F9 (by omega)).base (by omega)⟩, Below.trans a3 (F9.below (by have := a3.le; omega) (fun k hk e => by omega))⟩
end Go.Proofs.Ytpdackbcnbhppaa
